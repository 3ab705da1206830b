/- ParitySums, walked. -/
import Derived.Test.YthjodjfjeamilaaSmA
set_option linter.unusedVariables false
set_option linter.unusedSimpArgs false
namespace Go.Proofs.Ythjodjfjeamilaa.Wd
open Go Go.RowKit Go.Proofs.YthjodjfjeamilaaW.PrintWords Go.Proofs.YthjodjfjeamilaaW.PrintLast Go.Proofs.YthjodjfjeamilaaW.PrintMore Go.Proofs.Ythjodjfjeamilaa.Bridge Go.Proofs.Ythjodjfjeamilaa.PA Go.Proofs.Ythjodjfjeamilaa.PB Go.Proofs.Ythjodjfjeamilaa.BrPA Go.Proofs.Ythjodjfjeamilaa.Pur
theorem rdB_addr {w : World} {A : Option Addr} {l : List Nat} (h : RdB w A l) (h0 : 0 < l.length) : ∃ a, A = some a ∧ ∀ k, k < l.length → ∀ W, Below w.heap.size w W → W.cell? (a.add k) = some (.int .u8 ((l.getD k 0 : Nat) : Int)) := by
  obtain ⟨a, hA, _⟩ := rdB_cell h h0
  refine ⟨a, hA, fun k hk W hW => ?_⟩
  obtain ⟨a', hA', h2⟩ := rdB_cell h hk
  rw [hA] at hA'
  injection hA' with e
  rw [e]
  exact h2 W hW
theorem col_heads {w : World} {A : Option Addr} {cs : List (List Nat)} {n : Nat} (h : Kd.C (Kd.slice 5 (Kd.int .u8)) w A (II cs).length (II cs)) (hg : Pur.Good cs n) : ∃ a, A = some a ∧ ∀ i, i < cs.length → ∃ a2 c', n ≤ c' ∧ (∀ W, Below w.heap.size w W → W.cell? (a.add i) = some (.slice (some a2) n c')) ∧ ∀ k, k < n → ∀ W, Below w.heap.size w W → W.cell? (a2.add k) = some (.int .u8 (((cs.getD i []).getD k 0 : Nat) : Int)) := by
  obtain ⟨ys0, HY⟩ := cl_of h
  have key : ∀ i, i < cs.length → ∃ a A' c', A = some a ∧ (I (cs.getD i [])).length ≤ c' ∧ w.cell? (a.add i) = some (.slice A' (I (cs.getD i [])).length c') ∧ RdB w A' (cs.getD i []) := fun i hi => by
    have hyi : ys0[i]? = some (ys0[i]'(by rw [HY.ylen, II_len]; exact hi)) := List.getElem?_eq_getElem _
    have hci : (II cs)[i]? = some (I (cs.getD i [])) := by
      unfold II
      rw [List.getElem?_map, List.getElem?_eq_getElem hi, getD_of hi]; rfl
    obtain ⟨a, hA, hc⟩ := HY.addr hyi
    obtain ⟨A', c', he, h3, h4⟩ := HY.el i _ _ hci hyi
    rw [he] at hc
    exact ⟨a, A', c', hA, h3, hc, h4⟩
  obtain ⟨a, _, _, hA, _⟩ := key 0 hg.lo
  refine ⟨a, hA, fun i hi => ?_⟩
  obtain ⟨a', A', c', hA', h3, h4, h5⟩ := key i hi
  rw [hA] at hA'
  injection hA' with e
  subst e
  have hl : (cs.getD i []).length = n := hg.len _ (getD_mem hi)
  obtain ⟨a2, rfl, h6⟩ := rdB_addr h5 (by rw [hl]; exact hg.snd.pos)
  rw [I_len, hl] at h3 h4
  exact ⟨a2, c', h3, fun W hW => cell_below h4 hW, fun k hk => h6 k (by rw [hl]; exact hk)⟩
theorem Cols.start (W : World) (base : Nat) (hb : base ≤ W.heap.size) : Cols (W.alloc (.cells #[] 24)) base (.slice (some ⟨W.heap.size, 0, none⟩) 0 0) [] [] :=
  ⟨rfl, World.ownsRow_lit (base := base) (e := 24) (size := 1) W #[] 0 hb (by decide) rfl, fun j y c h => by simp at h, fun i j yi yj k h => by simp at h⟩
theorem own_start (W : World) (base : Nat) (hb : base ≤ W.heap.size) : Own (W.alloc (.cells #[] 5)) base (.slice (some ⟨W.heap.size, 0, none⟩) 0 0) [] :=
  World.ownsRow_lit (base := base) (e := 5) (size := 1) W #[] 0 hb (by decide) rfl
/-- A row of n bytes of one's own, told by its address. -/
theorem own_n {w : World} {base : Nat} {v : Value} {l : List Nat} {n : Nat} (h : Own w base v l) (hl : l.length = n) (hn : 0 < n) : ∃ a c, v = .slice (some a) n c ∧ n ≤ c ∧ RdB w (some a) l ∧ ∀ k, k < n → ∀ W, Below w.heap.size w W → W.cell? (a.add k) = some (.int .u8 ((l.getD k 0 : Nat) : Int)) := by
  obtain ⟨A, c, rfl, hc, hr⟩ := h.form
  obtain ⟨a, rfl, h2⟩ := rdB_addr hr (by omega)
  rw [I_len, hl] at hc ⊢
  exact ⟨a, c, rfl, hc, hr, fun k hk => h2 k (by omega)⟩
theorem tab_snoc' (n : Nat) (f : Nat → Nat) : tab n f ++ [f n] = tab (n + 1) f := by unfold tab; rw [List.range_succ, List.map_append]; rfl
/-- A column more, whose slice lies in a cell. -/
theorem Cols.push' {W : World} {base b : Nat} {v y : Value} {ys : List Value} {cs : List (List Nat)} {c : List Nat} (h : Cols W base v ys cs) (ho : Own W base y c) (hcell : W.cell? ⟨b, 0, none⟩ = some y) (hf : ∀ (j : Nat) z k, ys[j]? = some z → z.ownBlock = some k → y.ownBlock ≠ some k) (hb : base ≤ W.heap.size) (hl : cs.length ≤ 90) :
    ∃ v' w1, (Builtin.append_ #[22, 22] 22 #[v, .slice (some ⟨b, 0, none⟩) 1 1]).run Try.prog W = .ok v' w1 ∧ Cols w1 base v' (ys ++ [y]) (cs ++ [c]) ∧ W.grownBy w1 v.ownBlock := by
  obtain ⟨i0, hi0, hz0, hz1, hz2⟩ := info_parts info24
  obtain ⟨v', w1, hr, h3, h4, _, hat⟩ := run_append_own_at (P := Try.prog) W base 22 22 24 i0 (.slice none 0 0) 1 24 Try.underlying22 hi0 hz0 hz1 hz2 rfl (by decide) v cs.length ys h.own ⟨b, 0, none⟩ 1 1 [y] rfl (fun j u hj => by
    have hj0 : j = 0 := by have := (List.getElem?_eq_some_iff.1 hj).1; simp at this; exact this
    subst hj0
    simp only [List.getElem?_cons_zero, Option.some.injEq] at hj
    subst hj
    rw [addr_add]
    exact hcell) (fun u hu => by simp at hu; subst hu; exact slice_one ho) (by unfold maxLen; omega) (by omega) (by first | omega | (simp; omega) | simp)
  have hO := Only.grown h4
  have hne : ∀ k, k ∈ v.ownBlock.toList → ∀ (z : Value) (l : List Nat), Own W base z l → z.ownBlock ≠ some k := fun k hk z l hz he => h.ne hz k (by simpa using hk) he.symm
  refine ⟨v', w1, hr, ⟨by simp [h.len], ?_, ?_, ?_⟩, h4⟩
  · rw [List.length_append]; exact h3
  · intro j z d hz hd
    rcases Nat.lt_or_ge j cs.length with hj | hj
    · rw [List.getElem?_append_left (by rw [h.len]; exact hj)] at hz
      rw [List.getElem?_append_left hj] at hd
      have he := h.el j z d hz hd
      exact own_kept he hO (fun k hk hm => hne k hm z d he hk)
    · rw [List.getElem?_append_right (by rw [h.len]; exact hj), h.len] at hz
      rw [List.getElem?_append_right hj] at hd
      have h0 : j - cs.length = 0 := by have := (List.getElem?_eq_some_iff.1 hz).1; simp at this; omega
      rw [h0] at hz hd
      simp only [List.getElem?_cons_zero, Option.some.injEq] at hz hd
      subst hz hd
      exact own_kept ho hO (fun k hk hm => hne k hm y c ho hk)
  · intro i j yi yj k hi hj hki hkj
    have key : ∀ (a b : Nat) (ya yb : Value), a < b → (ys ++ [y])[a]? = some ya → (ys ++ [y])[b]? = some yb → ya.ownBlock = some k → yb.ownBlock = some k → a = b := by
      intro a b ya yb hab ha hb' hka hkb
      rcases Nat.lt_or_ge b ys.length with hbl | hbl
      · rw [List.getElem?_append_left (by omega)] at ha
        rw [List.getElem?_append_left hbl] at hb'
        exact h.apart a b ya yb k ha hb' hka hkb
      · have hb0 : b = ys.length := by have := (List.getElem?_eq_some_iff.1 hb').1; simp at this; omega
        subst hb0
        rw [List.getElem?_append_left (by omega)] at ha
        rw [List.getElem?_append_right (Nat.le_refl _), Nat.sub_self] at hb'
        simp only [List.getElem?_cons_zero, Option.some.injEq] at hb'
        subst hb'
        exact absurd hkb (hf a ya k ha hka)
    rcases Nat.lt_trichotomy i j with hlt | rfl | hgt
    · exact key i j yi yj hlt hi hj hki hkj
    · rfl
    · exact (key j i yj yi hgt hj hi hkj hki).symm
/-- Copies of the columns, a row of noughts, and its slice in a cell. -/
structure Jn (w4 W : World) (n : Nat) (vc : Value) (ys : List Value) (cs : List (List Nat)) (z b : Nat) : Prop where
  c : Cols W w4.heap.size vc ys cs
  o : Own W w4.heap.size (.slice (some ⟨z, 0, none⟩) n n) (tab n fun _ => 0)
  cell : W.cell? ⟨b, 0, none⟩ = some (.slice (some ⟨z, 0, none⟩) n n)
  far : ∀ (j : Nat) y k, ys[j]? = some y → y.ownBlock = some k → z ≠ k
  below : Below w4.heap.size w4 W
theorem Jn.app {w4 W : World} {n : Nat} {vc : Value} {ys : List Value} {cs : List (List Nat)} {z b : Nat} (h : Jn w4 W n vc ys cs z b) (hl : cs.length ≤ 30) : ∃ v' ys' w8, (Builtin.append_ #[22, 22] 22 #[vc, .slice (some ⟨b, 0, none⟩) 1 1]).run Try.prog W = .ok v' w8 ∧ Cols w8 w4.heap.size v' ys' (cs ++ [tab n fun _ => 0]) ∧ Below w4.heap.size w4 w8 := by
  obtain ⟨v', w8, hr, hc, hg⟩ := h.c.push' h.o h.cell (fun j y k hy hk h2 => h.far j y k hy hk (by simpa [Value.ownBlock] using h2)) h.below.size (by omega)
  exact ⟨v', _, w8, hr, hc, Only.below h.below (Only.grown hg) h.below.size (fun x hx => (h.c.own.lt x (by simpa using hx)).1)⟩
theorem jn_a {w4 wd wA : World} {n : Nat} (hn : n ≤ 4096) {vc : Value} {ys : List Value} {cs : List (List Nat)} (hd : Below w4.heap.size w4 wd) (hA : Cols wA wd.heap.size vc ys cs) (hb : Below wd.heap.size wd wA) : Jn w4 ((wA.alloc (.cells (u8n (tab n fun _ => 0)).toArray 5)).alloc (.cells #[.slice (some ⟨wA.heap.size, 0, none⟩) n n] 24)) n vc ys cs wA.heap.size (wA.heap.size + 1) := by
  have hbA := hd.trans (hb.mono hd.size)
  have B1 := balloc wA (.cells (u8n (tab n fun _ => 0)).toArray 5)
  have B2 := balloc (wA.alloc (.cells (u8n (tab n fun _ => 0)).toArray 5)) (.cells #[.slice (some ⟨wA.heap.size, 0, none⟩) n n] 24)
  have hz : (wA.alloc (.cells (u8n (tab n fun _ => 0)).toArray 5)).heap.size = wA.heap.size + 1 := by simp
  have hA' : Cols wA w4.heap.size vc ys cs := ⟨hA.len, own_lower hA.own hd.size, fun j y c h1 h2 => own_lower (hA.el j y c h1 h2) hd.size, hA.apart⟩
  refine ⟨(hA'.below B1).below B2, own_belowB (mk_own n hn wA _ hbA.size) B2, ?_, fun j y k hy hk h => ?_, (hbA.trans (B1.mono hbA.size)).trans (B2.mono (hbA.trans (B1.mono hbA.size)).size)⟩
  · rw [← hz, cell_of_heap (heap_alloc_new _ _)]; rfl
  · have := (hA.lt j y k hy hk).2
    omega
theorem jn_b {w4 wd wA : World} {n : Nat} (hn : n ≤ 4096) {vc : Value} {ys : List Value} {cs : List (List Nat)} (hd : Below w4.heap.size w4 wd) (hA : Cols wA (wd.alloc (.cells (u8n (tab n fun _ => 0)).toArray 5)).heap.size vc ys cs) (hb : Below (wd.alloc (.cells (u8n (tab n fun _ => 0)).toArray 5)).heap.size (wd.alloc (.cells (u8n (tab n fun _ => 0)).toArray 5)) wA) : Jn w4 (wA.alloc (.cells #[.slice (some ⟨wd.heap.size, 0, none⟩) n n] 24)) n vc ys cs wd.heap.size wA.heap.size := by
  have B0 := balloc wd (.cells (u8n (tab n fun _ => 0)).toArray 5)
  have hd1 := hd.trans (B0.mono hd.size)
  have hbA := hd1.trans (hb.mono hd1.size)
  have B2 := balloc wA (.cells #[.slice (some ⟨wd.heap.size, 0, none⟩) n n] 24)
  have hz : (wd.alloc (.cells (u8n (tab n fun _ => 0)).toArray 5)).heap.size = wd.heap.size + 1 := by simp
  have hA' : Cols wA w4.heap.size vc ys cs := ⟨hA.len, own_lower hA.own hd1.size, fun j y c h1 h2 => own_lower (hA.el j y c h1 h2) hd1.size, hA.apart⟩
  refine ⟨hA'.below B2, own_belowB (own_belowB (mk_own n hn wd _ hd.size) hb) B2, ?_, fun j y k hy hk h => ?_, hbA.trans (B2.mono hbA.size)⟩
  · rw [cell_of_heap (heap_alloc_new _ _)]; rfl
  · have := (hA.el j y _ hy (List.getElem?_eq_getElem (by have := (List.getElem?_eq_some_iff.1 hy).1; rw [hA.len] at this; exact this))).lt k hk
    omega
theorem jn_c {w4 wd wA : World} {n : Nat} (hn : n ≤ 4096) {vc : Value} {ys : List Value} {cs : List (List Nat)} (hd : Below w4.heap.size w4 wd) (hA : Cols wA ((wd.alloc (.cells (u8n (tab n fun _ => 0)).toArray 5)).alloc (.cells #[.slice (some ⟨wd.heap.size, 0, none⟩) n n] 24)).heap.size vc ys cs) (hb : Below ((wd.alloc (.cells (u8n (tab n fun _ => 0)).toArray 5)).alloc (.cells #[.slice (some ⟨wd.heap.size, 0, none⟩) n n] 24)).heap.size ((wd.alloc (.cells (u8n (tab n fun _ => 0)).toArray 5)).alloc (.cells #[.slice (some ⟨wd.heap.size, 0, none⟩) n n] 24)) wA) : Jn w4 wA n vc ys cs wd.heap.size (wd.heap.size + 1) := by
  have B0 := balloc wd (.cells (u8n (tab n fun _ => 0)).toArray 5)
  have B1 := balloc (wd.alloc (.cells (u8n (tab n fun _ => 0)).toArray 5)) (.cells #[.slice (some ⟨wd.heap.size, 0, none⟩) n n] 24)
  have hd1 := hd.trans (B0.mono hd.size)
  have hd2 := hd1.trans (B1.mono hd1.size)
  have hbA := hd2.trans (hb.mono hd2.size)
  have hz : (wd.alloc (.cells (u8n (tab n fun _ => 0)).toArray 5)).heap.size = wd.heap.size + 1 := by simp
  have hA' : Cols wA w4.heap.size vc ys cs := ⟨hA.len, own_lower hA.own hd2.size, fun j y c h1 h2 => own_lower (hA.el j y c h1 h2) hd2.size, hA.apart⟩
  refine ⟨hA', own_belowB (own_belowB (mk_own n hn wd _ hd.size) B1) hb, ?_, fun j y k hy hk h => ?_, hbA⟩
  · refine cell_below ?_ hb
    rw [← hz, cell_of_heap (heap_alloc_new _ _)]; rfl
  · have := (hA.el j y _ hy (List.getElem?_eq_getElem (by have := (List.getElem?_eq_some_iff.1 hy).1; rw [hA.len] at this; exact this))).lt k hk
    simp at this
    omega
set_option maxRecDepth 100000 in
set_option maxHeartbeats 16000000 in
theorem sums_good (w : World) (A0 : Option Addr) (c0 : Nat) (cs : List (List Nat)) (A1 : Option Addr) (c1 : Nat) (ds : List (List Nat)) (n : Nat) (h0 : Kd.C (Kd.slice 5 (Kd.int .u8)) w A0 (II cs).length (II cs)) (k0 : (II cs).length ≤ c0) (h1 : Kd.C (Kd.slice 5 (Kd.int .u8)) w A1 (II ds).length (II ds)) (k1 : (II ds).length ≤ c1)
    (b0 : Bytt cs) (b1 : Bytt ds) (g0 : Pur.Good cs n) (g1 : Pur.Good ds n) (hl : cs.length = ds.length) :
    Calls Try.prog 4 #[.slice A0 (II cs).length c0, .slice A1 (II ds).length c1] w fun e w' => e = .returned (.bool true) ∧ Below w.heap.size w w' := by
  have hn1 := g0.snd.pos
  have hn4 := g0.snd.lim
  have hm1 := g0.lo
  have hm2 := g0.hi
  obtain ⟨a0, rfl, hi0⟩ := col_heads h0 g0
  obtain ⟨a1, rfl, hi1⟩ := col_heads h1 g1
  have HI0 := Lib.hid hi0
  have HI1 := Lib.hid hi1
  have HEA : Hid (∀ W, Calls Try.prog 13 #[] W fun e w' => e = .returned (.bool true) ∧ Below W.heap.size W w') := Lib.hid awake_any
  have HE0 : Hid (∀ W, Below w.heap.size w W → Calls Try.prog 11 #[.slice (some a0) cs.length c0] W fun e w' => ∃ v0 v1, e = .returned (.tuple #[v0, v1, .int .i64 0]) ∧ Own w' W.heap.size v0 (tab n (wP cs)) ∧ Own w' W.heap.size v1 (tab n (wQ cs)) ∧ Below W.heap.size W w') := Lib.hid (fun W hW => by
    have h := encode_any W (some a0) c0 cs _ _ _ (Kd.C_below h0 hW) k0 (encode_ok cs n b0 g0)
    rw [II_len] at h
    exact h)
  have HE1 : Hid (∀ W, Below w.heap.size w W → Calls Try.prog 11 #[.slice (some a1) cs.length c1] W fun e w' => ∃ v0 v1, e = .returned (.tuple #[v0, v1, .int .i64 0]) ∧ Own w' W.heap.size v0 (tab n (wP ds)) ∧ Own w' W.heap.size v1 (tab n (wQ ds)) ∧ Below W.heap.size W w') := Lib.hid (fun W hW => by
    have h := encode_any W (some a1) c1 ds _ _ _ (Kd.C_below h1 hW) k1 (encode_ok ds n b1 g1)
    rw [II_len, ← hl] at h
    exact h)
  have HCP : Hid (∀ W, Below w.heap.size w W → Calls Try.prog 10 #[.slice (some a0) cs.length c0] W fun e w' => ∃ v ys, e = .returned v ∧ Cols w' W.heap.size v ys cs ∧ Below W.heap.size W w') := Lib.hid (fun W hW => by
    have h := copies_any W (some a0) c0 cs (Kd.C_below h0 hW) k0 hm2 (fun c hc => by rw [g0.len c hc]; exact hn4)
    rw [II_len] at h
    exact h)
  have G0 := Lib.hid g0
  have G1 := Lib.hid g1
  have HL := Lib.hid hl
  rw [II_len, II_len, ← hl]
  rw [II_len] at k0 k1
  rw [← hl] at k1
  clear h0 h1 hi0 hi1 g0 g1 hl
  go_enter Try.func4, Try.ntmps4
  go_wp2_with (fail)
  refine (HEA.out _).mono ?_
  rintro e w1 ⟨rfl, hb1⟩
  have HB1 := Lib.hid hb1
  clear hb1 HEA
  go_wp2_with (fail)
  refine (HE0.out _ HB1.out).mono ?_
  rintro e w2 ⟨v0, v1, rfl, hp, hq, hb2⟩
  obtain ⟨ap, cp, rfl, hkp, hpr, hpc⟩ := own_n hp (tab_len _ _) hn1
  obtain ⟨aq, cq, rfl, hkq, hqr, hqc⟩ := own_n hq (tab_len _ _) hn1
  have HKP := Lib.hid hkp
  have HKQ := Lib.hid hkq
  clear hkp hkq
  have HPR := Lib.hid hpr
  have HPC := Lib.hid hpc
  have HQR := Lib.hid hqr
  have HQC := Lib.hid hqc
  have HB2 := Lib.hid (HB1.out.trans (hb2.mono HB1.out.size))
  clear hp hq hb2 HB1 HE0 hpr hpc hqr hqc
  go_wp2_with (fail)
  refine (HE1.out _ HB2.out).mono ?_
  rintro e w3 ⟨v2, v3, rfl, hx, hy, hb3⟩
  obtain ⟨ax, cx, rfl, _, _, hxc⟩ := own_n hx (tab_len _ _) hn1
  obtain ⟨ay, cy, rfl, _, _, hyc⟩ := own_n hy (tab_len _ _) hn1
  have HXC := Lib.hid hxc
  have HYC := Lib.hid hyc
  have HB3 := Lib.hid (HB2.out.trans (hb3.mono HB2.out.size))
  have HB23 := Lib.hid hb3
  clear hx hy hb3 HE1 hxc hyc
  go_wp2_with (fail)
  go_loopg [11, 12] (cs.length) (fun q' v11 v12 wr => ∃ (i : Nat) (ys : List Value), i ≤ cs.length ∧ v12 = .int .i64 (i : Int) ∧ q' = cs.length - i ∧ Cols wr w3.heap.size v11 ys ((xcs cs ds).take i) ∧ Below w3.heap.size w3 wr)
  case atStart => exact ⟨0, [], by omega, rfl, rfl, by simpa using Cols.start w3 w3.heap.size (Nat.le_refl _), balloc w3 _⟩
  case round =>
    obtain ⟨i, ys, hi, rfl, hq, hco, hbo⟩ := hrel
    have HQ := Lib.hid hq
    have HCO := Lib.hid hco
    have HBO := Lib.hid hbo
    clear hq hco hbo
    by_cases hlt : i < cs.length
    · obtain ⟨a2, c2, _, hs1, hs2⟩ := HI0.out i hlt
      obtain ⟨d2, e2, _, hs3, hs4⟩ := HI1.out i (by have := HL.out; omega)
      have HS1 := Lib.hid hs1
      have HS2 := Lib.hid hs2
      have HS3 := Lib.hid hs3
      have HS4 := Lib.hid hs4
      clear hs1 hs2 hs3 hs4
      have hiI : (i : Int) < (cs.length : Int) := by omega
      generalize hci : cs.getD i [] = ci at *
      generalize hdi : ds.getD i [] = di at *
      have HCI := Lib.hid hci
      have HDI := Lib.hid hdi
      clear hci hdi
      go_wp2_with (fail)
      obtain ⟨wo, rfl⟩ : ∃ wo, wo = wr := ⟨_, rfl⟩
      go_loopg [13, 14] (n) (fun q'' v13 v14 WI => ∃ k : Nat, k ≤ n ∧ v14 = .int .i64 (k : Int) ∧ q'' = n - k ∧ Own WI wo.heap.size v13 (tab k (xc ci di)) ∧ Below wo.heap.size wo WI)
      case atStart => exact ⟨0, by omega, rfl, rfl, by simpa [tab] using own_start wo wo.heap.size (Nat.le_refl _), balloc wo _⟩
      case round =>
        obtain ⟨k, hk, rfl, hq2, hoi, hbi⟩ := hrel
        have HQ2 := Lib.hid hq2
        have HOI := Lib.hid hoi
        have HBI := Lib.hid hbi
        have HBW := Lib.hid ((HB3.out.trans (HBO.out.mono HB3.out.size)).trans (hbi.mono ((HB3.out.trans (HBO.out.mono HB3.out.size)).size)))
        clear hq2 hoi hbi
        have hcA := HS1.out _ HBW.out
        by_cases hkl : k < n
        · have hkI : (k : Int) < (n : Int) := by omega
          have HT2 := Lib.hid (HS2.out k hkl)
          have HT4 := Lib.hid (HS4.out k hkl)
          go_upto_region 15 with (fail)
          have hx := xor_u8 (ci.getD k 0) (di.getD k 0) (by rw [← HCI.out]; exact byt_get (bytt_get b0 i) k) (by rw [← HDI.out]; exact byt_get (bytt_get b1 i) k)
          have hSB : Below w.heap.size w wr.drew := HBW.out.drew
          refine wp_region_held_drew (S := fun W => Below w.heap.size w W) (by kernel_rfl) hSB (fun hS => ?_)
          have HOD := Lib.hid (own_belowB HOI.out (Below.refl wr.heap.size wr).drew)
          have HBD := Lib.hid HBI.out.drew
          clear hSB HOI HBI
          generalize hwd : wr.drew = wd at HOD HBD hS ⊢
          clear hwd hcA HBW
          refine wpAnyH_take (i := 0) (v := ?_) rfl (by kernel_rfl) (by kernel_rfl) (by kernel_rfl) (fun _ _ _ h => h) (Or.inl ⟨by rfl, ?_⟩) hS ?_
          rotate_left
          · intro w' hSw; go_simp; try rfl
          try simp only [Act.put, List.getElem_toArray, List.getElem_cons_succ, List.getElem_cons_zero, List.setIfInBounds_toArray, List.set_cons_zero, List.set_cons_succ]
          refine wpAnyH_take (i := 1) (v := ?_) rfl (by kernel_rfl) (by kernel_rfl) (by kernel_rfl) (fun _ _ _ h => h) (Or.inl ⟨by rfl, ?_⟩) hS ?_
          rotate_left
          · intro w' hSw; go_simp; try rfl
          try simp only [Act.put, List.getElem_toArray, List.getElem_cons_succ, List.getElem_cons_zero, List.setIfInBounds_toArray, List.set_cons_zero, List.set_cons_succ]
          refine wpAnyH_take (i := 2) (v := ?_) rfl (by kernel_rfl) (by kernel_rfl) (by kernel_rfl) (fun _ _ _ h => h) (Or.inl ⟨by rfl, ?_⟩) hS ?_
          rotate_left
          · intro w' hSw; go_simp; try rfl
          try simp only [Act.put, List.getElem_toArray, List.getElem_cons_succ, List.getElem_cons_zero, List.setIfInBounds_toArray, List.set_cons_zero, List.set_cons_succ]
          refine wpAnyH_take (i := 3) (v := ?_) rfl (by kernel_rfl) (by kernel_rfl) (by kernel_rfl) (fun _ _ _ h => h) (Or.inl ⟨by rfl, ?_⟩) hS ?_
          rotate_left
          · intro w' hSw; go_simp; try rfl
          try simp only [Act.put, List.getElem_toArray, List.getElem_cons_succ, List.getElem_cons_zero, List.setIfInBounds_toArray, List.set_cons_zero, List.set_cons_succ]
          refine wpAnyH_take (i := 4) (v := ?_) rfl (by kernel_rfl) (by kernel_rfl) (by kernel_rfl) (fun _ _ _ h => h) (Or.inl ⟨by rfl, ?_⟩) hS ?_
          rotate_left
          · intro w' hSw; have s1 := HS1.out _ hSw; have s2 := HT2.out _ hSw; have s3 := HS3.out _ hSw; have s4 := HT4.out _ hSw; go_simp; try rfl
          try simp only [Act.put, List.getElem_toArray, List.getElem_cons_succ, List.getElem_cons_zero, List.setIfInBounds_toArray, List.set_cons_zero, List.set_cons_succ]
          refine wpAnyH_take (i := 5) (v := ?_) rfl (by kernel_rfl) (by kernel_rfl) (by kernel_rfl) (fun _ _ _ h => h) (Or.inl ⟨by rfl, ?_⟩) hS ?_
          rotate_left
          · intro w' hSw; go_simp; try rfl
          try simp only [Act.put, List.getElem_toArray, List.getElem_cons_succ, List.getElem_cons_zero, List.setIfInBounds_toArray, List.set_cons_zero, List.set_cons_succ]
          refine wpAnyH_take (i := 6) (v := ?_) rfl (by kernel_rfl) (by kernel_rfl) (by kernel_rfl) (fun _ _ _ h => h) (Or.inl ⟨by rfl, ?_⟩) hS ?_
          rotate_left
          · intro w' hSw; go_simp; try rfl
          try simp only [Act.put, List.getElem_toArray, List.getElem_cons_succ, List.getElem_cons_zero, List.setIfInBounds_toArray, List.set_cons_zero, List.set_cons_succ]
          refine wpAnyH_take (i := 7) (v := ?_) rfl (by kernel_rfl) (by kernel_rfl) (by kernel_rfl) (fun _ _ _ h => h) (Or.inl ⟨by rfl, ?_⟩) hS ?_
          rotate_left
          · intro w' hSw; have s1 := HS1.out _ hSw; have s2 := HT2.out _ hSw; have s3 := HS3.out _ hSw; have s4 := HT4.out _ hSw; go_simp; try rfl
          try simp only [Act.put, List.getElem_toArray, List.getElem_cons_succ, List.getElem_cons_zero, List.setIfInBounds_toArray, List.set_cons_zero, List.set_cons_succ]
          refine wpAnyH_take (i := 8) (v := ?_) rfl (by kernel_rfl) (by kernel_rfl) (by kernel_rfl) (fun _ _ _ h => h) (Or.inl ⟨by rfl, ?_⟩) hS ?_
          rotate_left
          · intro w' hSw; go_simp; try rfl
          try simp only [Act.put, List.getElem_toArray, List.getElem_cons_succ, List.getElem_cons_zero, List.setIfInBounds_toArray, List.set_cons_zero, List.set_cons_succ]
          refine wpAnyH_take (i := 9) (v := ?_) rfl (by kernel_rfl) (by kernel_rfl) (by kernel_rfl) (fun _ _ _ h => h) (Or.inl ⟨by rfl, ?_⟩) hS ?_
          rotate_left
          · intro w' hSw; go_simp; try rfl
          try simp only [Act.put, List.getElem_toArray, List.getElem_cons_succ, List.getElem_cons_zero, List.setIfInBounds_toArray, List.set_cons_zero, List.set_cons_succ]
          refine wpAnyH_take (i := 10) (v := ?_) rfl (by kernel_rfl) (by kernel_rfl) (by kernel_rfl) (fun _ _ _ h => h) (Or.inl ⟨by rfl, ?_⟩) hS ?_
          rotate_left
          · intro w' hSw; go_simp; try rfl
          try simp only [Act.put, List.getElem_toArray, List.getElem_cons_succ, List.getElem_cons_zero, List.setIfInBounds_toArray, List.set_cons_zero, List.set_cons_succ]
          refine wpAnyH_take (i := 11) (v := ?_) rfl (by kernel_rfl) (by kernel_rfl) (by kernel_rfl) (fun _ _ _ h => h) (Or.inl ⟨by rfl, ?_⟩) hS ?_
          rotate_left
          · intro w' hSw; have s1 := HS1.out _ hSw; have s2 := HT2.out _ hSw; have s3 := HS3.out _ hSw; have s4 := HT4.out _ hSw; go_simp; try rfl
          try simp only [Act.put, List.getElem_toArray, List.getElem_cons_succ, List.getElem_cons_zero, List.setIfInBounds_toArray, List.set_cons_zero, List.set_cons_succ]
          refine wpAnyH_take (i := 12) (v := ?_) rfl (by kernel_rfl) (by kernel_rfl) (by kernel_rfl) (fun _ _ _ h => h) (Or.inl ⟨by rfl, ?_⟩) hS ?_
          rotate_left
          · intro w' hSw; go_simp; try rfl
          try simp only [Act.put, List.getElem_toArray, List.getElem_cons_succ, List.getElem_cons_zero, List.setIfInBounds_toArray, List.set_cons_zero, List.set_cons_succ]
          refine wpAnyH_take (i := 13) (v := ?_) rfl (by kernel_rfl) (by kernel_rfl) (by kernel_rfl) (fun _ _ _ h => h) (Or.inl ⟨by rfl, ?_⟩) hS ?_
          rotate_left
          · intro w' hSw; go_simp; try rfl
          try simp only [Act.put, List.getElem_toArray, List.getElem_cons_succ, List.getElem_cons_zero, List.setIfInBounds_toArray, List.set_cons_zero, List.set_cons_succ]
          refine wpAnyH_take (i := 14) (v := ?_) rfl (by kernel_rfl) (by kernel_rfl) (by kernel_rfl) (fun _ _ _ h => h) (Or.inl ⟨by rfl, ?_⟩) hS ?_
          rotate_left
          · intro w' hSw; have s1 := HS1.out _ hSw; have s2 := HT2.out _ hSw; have s3 := HS3.out _ hSw; have s4 := HT4.out _ hSw; go_simp; try rfl
          try simp only [Act.put, List.getElem_toArray, List.getElem_cons_succ, List.getElem_cons_zero, List.setIfInBounds_toArray, List.set_cons_zero, List.set_cons_succ]
          refine wpAnyH_take (i := 15) (v := (.int .u8 ((xc ci di k : Nat) : Int))) rfl (by kernel_rfl) (by kernel_rfl) (by kernel_rfl) (fun _ _ _ h => h) (Or.inl ⟨by rfl, fun w' hSw => ?_⟩) hS ?_
          · go_simp; first | rfl | exact hx
          try simp only [Act.put, List.getElem_toArray, List.getElem_cons_succ, List.getElem_cons_zero, List.setIfInBounds_toArray, List.set_cons_zero, List.set_cons_succ]
          obtain ⟨vn, w8, hr8, ho8, hgr8⟩ := own_push HOD.out (xc ci di k) HBD.out.size (by rw [tab_len]; omega)
          have HR8 := Lib.hid hr8
          have hT := hS.trans ((balloc wd (.cells #[.int .u8 (xc ci di k : Int)] 5)).mono hS.size)
          have HB8 : Hid (Below wo.heap.size wo w8) := Lib.hid (by
            have hB4 := balloc wd (.cells #[.int .u8 (xc ci di k : Int)] 5)
            exact Only.below (HBD.out.trans (hB4.mono HBD.out.size)) (Only.grown hgr8) (by have := HBD.out.size; simp; omega) (fun x hx => (HOD.out.lt x (by simpa using hx)).1))
          have HO8 : Hid (Own w8 wo.heap.size vn (tab (k + 1) (xc ci di))) := Lib.hid (by rw [← tab_snoc']; exact ho8)
          have hT2 : Below w.heap.size w w8 := (HB3.out.trans (HBO.out.mono HB3.out.size)).trans (HB8.out.mono ((HB3.out.trans (HBO.out.mono HB3.out.size)).size))
          clear hr8 ho8 hgr8
          refine wpAnyH_ready (rs := [16]) (by kernel_rfl) (by simp) ?_
          refine AllReadyH.cons rfl (fun K hK => ?_) AllReadyH.nil
          go_simp
          refine hK.out _ _ hT (fun hU => ?_)
          clear hK K hU hS
          have hS := hT
          clear hT
          try simp only [Act.put, List.getElem_toArray, List.getElem_cons_succ, List.getElem_cons_zero, List.setIfInBounds_toArray, List.set_cons_zero, List.set_cons_succ]
          refine wpAnyH_ready (rs := [17]) (by kernel_rfl) (by simp) ?_
          refine AllReadyH.cons rfl (fun K hK => ?_) AllReadyH.nil
          rw [if_pos (by rfl)]
          refine wp_append_ran (.tmp 80) (.tmp 96) 24 rfl u13 (.slice (some ⟨wd.heap.size, 0, none⟩) 1 1) (by rfl) (by rfl) vn w8 (by exact HR8.out) ?_
          refine hK.out _ _ hT2 (fun hU => ?_)
          clear hK K hU hS
          have hS := hT2
          clear hT2
          try simp only [Act.put, List.getElem_toArray, List.getElem_cons_succ, List.getElem_cons_zero, List.setIfInBounds_toArray, List.set_cons_zero, List.set_cons_succ]
          refine wpAnyH_take (i := 18) (v := ?_) rfl (by kernel_rfl) (by kernel_rfl) (by kernel_rfl) (fun _ _ _ h => h) (Or.inl ⟨by rfl, ?_⟩) hS ?_
          rotate_left
          · intro w' hSw; go_simp; try rfl
          try simp only [Act.put, List.getElem_toArray, List.getElem_cons_succ, List.getElem_cons_zero, List.setIfInBounds_toArray, List.set_cons_zero, List.set_cons_succ]
          refine wpAnyH_done (by kernel_rfl) ?_ _
          go_wp2_with (fail)
          go_roundg (n - (k + 1))
          case measure => have := HQ2.out; omega
          case rel => exact ⟨k + 1, by omega, by go_num, rfl, HO8.out, HB8.out⟩
        · obtain rfl : n = k := by omega
          have hfr : ∀ (j : Nat) z b, ys[j]? = some z → z.ownBlock = some b → u13.ownBlock ≠ some b := fun j z b hz hb h => by
            have h5 := (HCO.out.lt j z b hz hb).2
            have h6 := (HOI.out.lt b h).1
            omega
          obtain ⟨va, w7, hr7, hc7, hgr7⟩ := (HCO.out.below HBI.out).push (own_lower HOI.out HBO.out.size) hfr (Nat.le_trans HBO.out.size HBI.out.size) (by rw [List.length_take, xcs_len]; omega)
          have HR7 := Lib.hid hr7
          have HC7 : Hid (Cols w7 w3.heap.size va (ys ++ [u13]) ((xcs cs ds).take (i + 1))) := Lib.hid (by
            rw [xcs_take hlt, HCI.out, HDI.out, show ci.length = n by rw [← HCI.out]; exact G0.out.len _ (getD_mem hlt)]
            exact hc7)
          have HB7 : Hid (Below w3.heap.size w3 w7) := Lib.hid (by
            have hB := HBO.out.trans (HBI.out.mono HBO.out.size)
            have hB4 := balloc wr (.cells #[u13] 24)
            exact Only.below (hB.trans (hB4.mono hB.size)) (Only.grown hgr7) (by have := hB.size; simp; omega) (fun x hx => ((HCO.out.below HBI.out).own.lt x (by simpa using hx)).1))
          clear hr7 hc7 hgr7 hfr hkl
          obtain ⟨Ay, cy', rfl, _, _⟩ := HOI.out.form
          go_wp2_with (first
            | (at_builtin; refine wpList_append_ran rfl (.tmp 98) (.tmp 100) 22 rfl _ _ rfl rfl va w7 HR7.out ?_))
          go_roundg (cs.length - (i + 1))
          case measure => have := HQ.out; omega
          case rel => exact ⟨i + 1, _, by omega, by go_num, rfl, HC7.out, HB7.out⟩
    · obtain rfl : i = cs.length := by omega
      clear hlt
      have hc1 := HCO.out
      rw [List.take_of_length_le (by rw [xcs_len]; omega)] at hc1
      obtain ⟨Aa, ca, rfl, hca, hrd⟩ := hc1.C (by rw [xcs_len]; omega)
      have HES := Lib.hid (encode_any wr Aa ca (xcs cs ds) _ _ _ hrd hca (encode_ok _ n (xcs_bytt b0 b1) (xcs_good G0.out)))
      have HB4 := Lib.hid HBO.out
      clear hc1 hca hrd HCO HBO HQ HI0 HI1
      go_wp2_with (fail)
      refine (HES.out).mono ?_
      rintro e w4 ⟨v4, v5, rfl, hu, hv, hb4⟩
      obtain ⟨au, cu, rfl, _, _, huc⟩ := own_n hu (tab_len _ _) hn1
      obtain ⟨av, cv, rfl, _, _, hvc⟩ := own_n hv (tab_len _ _) hn1
      have HB34 : Hid (Below w3.heap.size w3 w4) := Lib.hid (HB4.out.trans (hb4.mono HB4.out.size))
      have HB24 : Hid (Below w2.heap.size w2 w4) := Lib.hid (HB23.out.trans (HB34.out.mono HB23.out.size))
      have HB04 : Hid (Below w.heap.size w w4) := Lib.hid (HB2.out.trans (HB24.out.mono HB2.out.size))
      have HUC := Lib.hid huc
      have HVC := Lib.hid hvc
      clear hu hv hb4 huc hvc HES HB4 HB3
      go_wp2_with (fail)
      go_loopg [18] (n) (fun q' v18 wr => ∃ k : Nat, k ≤ n ∧ v18 = .int .i64 (k : Int) ∧ q' = n - k ∧ Below w4.heap.size w4 wr)
      case atStart => exact ⟨0, by omega, rfl, rfl, Below.refl _ _⟩
      case round =>
        obtain ⟨k, hk, rfl, hq, hbk⟩ := hrel
        have HQ := Lib.hid hq
        have HBK := Lib.hid hbk
        clear hq hbk
        by_cases hkl : k < n
        · have hkI : (k : Int) < (n : Int) := by omega
          have hgk : ∀ f : Nat → Nat, (tab n f).getD k 0 = f k := fun f => tab_get hkl
          have S1 : Hid (∀ W, Below w4.heap.size w4 W → W.cell? (au.add k) = some (.int .u8 ((wP cs k ^^^ wP ds k : Nat) : Int))) := Lib.hid (fun W hW => by rw [HUC.out k hkl W hW, hgk, wP_xcs G0.out HL.out hkl])
          have S2 : Hid (∀ W, Below w4.heap.size w4 W → W.cell? (ap.add k) = some (.int .u8 ((wP cs k : Nat) : Int))) := Lib.hid (fun W hW => by rw [HPC.out k hkl W (HB24.out.trans (hW.mono HB24.out.size)), hgk])
          have S3 : Hid (∀ W, Below w4.heap.size w4 W → W.cell? (ax.add k) = some (.int .u8 ((wP ds k : Nat) : Int))) := Lib.hid (fun W hW => by rw [HXC.out k hkl W (HB34.out.trans (hW.mono HB34.out.size)), hgk])
          have S4 : Hid (∀ W, Below w4.heap.size w4 W → W.cell? (av.add k) = some (.int .u8 ((wQ cs k ^^^ wQ ds k : Nat) : Int))) := Lib.hid (fun W hW => by rw [HVC.out k hkl W hW, hgk, wQ_xcs G0.out HL.out hkl])
          have S5 : Hid (∀ W, Below w4.heap.size w4 W → W.cell? (aq.add k) = some (.int .u8 ((wQ cs k : Nat) : Int))) := Lib.hid (fun W hW => by rw [HQC.out k hkl W (HB24.out.trans (hW.mono HB24.out.size)), hgk])
          have S6 : Hid (∀ W, Below w4.heap.size w4 W → W.cell? (ay.add k) = some (.int .u8 ((wQ ds k : Nat) : Int))) := Lib.hid (fun W hW => by rw [HYC.out k hkl W (HB34.out.trans (hW.mono HB34.out.size)), hgk])
          have hx1 := xor_u8 (wP cs k) (wP ds k) (wP_lt b0 k) (wP_lt b1 k)
          have hx2 := xor_u8 (wQ cs k) (wQ ds k) (wQ_lt b0 k) (wQ_lt b1 k)
          clear hgk
          go_upto_region 23 with (fail)
          have hSB : Below w4.heap.size w4 wr.drew := HBK.out.drew
          have HBD := Lib.hid hSB
          refine wp_region_held_drew (S := fun W => Below w4.heap.size w4 W) (by kernel_rfl) hSB (fun hS => ?_)
          clear hSB
          refine wpAnyH_take (i := 0) (v := ?_) rfl (by kernel_rfl) (by kernel_rfl) (by kernel_rfl) (fun _ _ _ h => h) (Or.inl ⟨by rfl, ?_⟩) hS ?_
          rotate_left
          · intro w' hSw; go_simp; try rfl
          try simp only [Act.put, List.getElem_toArray, List.getElem_cons_succ, List.getElem_cons_zero, List.setIfInBounds_toArray, List.set_cons_zero, List.set_cons_succ]
          refine wpAnyH_take (i := 1) (v := ?_) rfl (by kernel_rfl) (by kernel_rfl) (by kernel_rfl) (fun _ _ _ h => h) (Or.inl ⟨by rfl, ?_⟩) hS ?_
          rotate_left
          · intro w' hSw; go_simp; try rfl
          try simp only [Act.put, List.getElem_toArray, List.getElem_cons_succ, List.getElem_cons_zero, List.setIfInBounds_toArray, List.set_cons_zero, List.set_cons_succ]
          refine wpAnyH_take (i := 2) (v := ?_) rfl (by kernel_rfl) (by kernel_rfl) (by kernel_rfl) (fun _ _ _ h => h) (Or.inl ⟨by rfl, ?_⟩) hS ?_
          rotate_left
          · intro w' hSw; go_simp; try rfl
          try simp only [Act.put, List.getElem_toArray, List.getElem_cons_succ, List.getElem_cons_zero, List.setIfInBounds_toArray, List.set_cons_zero, List.set_cons_succ]
          refine wpAnyH_take (i := 3) (v := ?_) rfl (by kernel_rfl) (by kernel_rfl) (by kernel_rfl) (fun _ _ _ h => h) (Or.inl ⟨by rfl, ?_⟩) hS ?_
          rotate_left
          · intro w' hSw; have s1 := S1.out _ hSw; go_simp; try rfl
          try simp only [Act.put, List.getElem_toArray, List.getElem_cons_succ, List.getElem_cons_zero, List.setIfInBounds_toArray, List.set_cons_zero, List.set_cons_succ]
          refine wpAnyH_take (i := 4) (v := ?_) rfl (by kernel_rfl) (by kernel_rfl) (by kernel_rfl) (fun _ _ _ h => h) (Or.inl ⟨by rfl, ?_⟩) hS ?_
          rotate_left
          · intro w' hSw; go_simp; try rfl
          try simp only [Act.put, List.getElem_toArray, List.getElem_cons_succ, List.getElem_cons_zero, List.setIfInBounds_toArray, List.set_cons_zero, List.set_cons_succ]
          refine wpAnyH_take (i := 5) (v := ?_) rfl (by kernel_rfl) (by kernel_rfl) (by kernel_rfl) (fun _ _ _ h => h) (Or.inl ⟨by rfl, ?_⟩) hS ?_
          rotate_left
          · intro w' hSw; go_simp; try rfl
          try simp only [Act.put, List.getElem_toArray, List.getElem_cons_succ, List.getElem_cons_zero, List.setIfInBounds_toArray, List.set_cons_zero, List.set_cons_succ]
          refine wpAnyH_take (i := 6) (v := ?_) rfl (by kernel_rfl) (by kernel_rfl) (by kernel_rfl) (fun _ _ _ h => h) (Or.inl ⟨by rfl, ?_⟩) hS ?_
          rotate_left
          · intro w' hSw; go_simp; try rfl
          try simp only [Act.put, List.getElem_toArray, List.getElem_cons_succ, List.getElem_cons_zero, List.setIfInBounds_toArray, List.set_cons_zero, List.set_cons_succ]
          refine wpAnyH_take (i := 7) (v := ?_) rfl (by kernel_rfl) (by kernel_rfl) (by kernel_rfl) (fun _ _ _ h => h) (Or.inl ⟨by rfl, ?_⟩) hS ?_
          rotate_left
          · intro w' hSw; have s1 := S2.out _ hSw; go_simp; try rfl
          try simp only [Act.put, List.getElem_toArray, List.getElem_cons_succ, List.getElem_cons_zero, List.setIfInBounds_toArray, List.set_cons_zero, List.set_cons_succ]
          refine wpAnyH_take (i := 8) (v := ?_) rfl (by kernel_rfl) (by kernel_rfl) (by kernel_rfl) (fun _ _ _ h => h) (Or.inl ⟨by rfl, ?_⟩) hS ?_
          rotate_left
          · intro w' hSw; go_simp; try rfl
          try simp only [Act.put, List.getElem_toArray, List.getElem_cons_succ, List.getElem_cons_zero, List.setIfInBounds_toArray, List.set_cons_zero, List.set_cons_succ]
          refine wpAnyH_take (i := 9) (v := ?_) rfl (by kernel_rfl) (by kernel_rfl) (by kernel_rfl) (fun _ _ _ h => h) (Or.inl ⟨by rfl, ?_⟩) hS ?_
          rotate_left
          · intro w' hSw; go_simp; try rfl
          try simp only [Act.put, List.getElem_toArray, List.getElem_cons_succ, List.getElem_cons_zero, List.setIfInBounds_toArray, List.set_cons_zero, List.set_cons_succ]
          refine wpAnyH_take (i := 10) (v := ?_) rfl (by kernel_rfl) (by kernel_rfl) (by kernel_rfl) (fun _ _ _ h => h) (Or.inl ⟨by rfl, ?_⟩) hS ?_
          rotate_left
          · intro w' hSw; go_simp; try rfl
          try simp only [Act.put, List.getElem_toArray, List.getElem_cons_succ, List.getElem_cons_zero, List.setIfInBounds_toArray, List.set_cons_zero, List.set_cons_succ]
          refine wpAnyH_take (i := 11) (v := ?_) rfl (by kernel_rfl) (by kernel_rfl) (by kernel_rfl) (fun _ _ _ h => h) (Or.inl ⟨by rfl, ?_⟩) hS ?_
          rotate_left
          · intro w' hSw; have s1 := S3.out _ hSw; go_simp; try rfl
          try simp only [Act.put, List.getElem_toArray, List.getElem_cons_succ, List.getElem_cons_zero, List.setIfInBounds_toArray, List.set_cons_zero, List.set_cons_succ]
          refine wpAnyH_take (i := 12) (v := (.int .u8 ((wP cs k ^^^ wP ds k : Nat) : Int))) rfl (by kernel_rfl) (by kernel_rfl) (by kernel_rfl) (fun _ _ _ h => h) (Or.inl ⟨by rfl, fun w' hSw => ?_⟩) hS ?_
          · go_simp <;> first | rfl | exact hx1
          try simp only [Act.put, List.getElem_toArray, List.getElem_cons_succ, List.getElem_cons_zero, List.setIfInBounds_toArray, List.set_cons_zero, List.set_cons_succ]
          refine wpAnyH_take (i := 13) (v := (.bool false)) rfl (by kernel_rfl) (by kernel_rfl) (by kernel_rfl) (fun _ _ _ h => h) (Or.inl ⟨by rfl, fun w' hSw => ?_⟩) hS ?_
          · go_simp <;> rfl
          try simp only [Act.put, List.getElem_toArray, List.getElem_cons_succ, List.getElem_cons_zero, List.setIfInBounds_toArray, List.set_cons_zero, List.set_cons_succ]
          refine wpAnyH_take (i := 14) (v := ?_) rfl (by kernel_rfl) (by kernel_rfl) (by kernel_rfl) (fun _ _ _ h => h) (Or.inl ⟨by rfl, ?_⟩) hS ?_
          rotate_left
          · intro w' hSw; go_simp; try rfl
          try simp only [Act.put, List.getElem_toArray, List.getElem_cons_succ, List.getElem_cons_zero, List.setIfInBounds_toArray, List.set_cons_zero, List.set_cons_succ]
          refine wpAnyH_take (i := 15) (v := ?_) rfl (by kernel_rfl) (by kernel_rfl) (by kernel_rfl) (fun _ _ _ h => h) (Or.inl ⟨by rfl, ?_⟩) hS ?_
          rotate_left
          · intro w' hSw; go_simp; try rfl
          try simp only [Act.put, List.getElem_toArray, List.getElem_cons_succ, List.getElem_cons_zero, List.setIfInBounds_toArray, List.set_cons_zero, List.set_cons_succ]
          refine wpAnyH_take (i := 16) (v := ?_) rfl (by kernel_rfl) (by kernel_rfl) (by kernel_rfl) (fun _ _ _ h => h) (Or.inl ⟨by rfl, ?_⟩) hS ?_
          rotate_left
          · intro w' hSw; go_simp; try rfl
          try simp only [Act.put, List.getElem_toArray, List.getElem_cons_succ, List.getElem_cons_zero, List.setIfInBounds_toArray, List.set_cons_zero, List.set_cons_succ]
          refine wpAnyH_take (i := 17) (v := ?_) rfl (by kernel_rfl) (by kernel_rfl) (by kernel_rfl) (fun _ _ _ h => h) (Or.inl ⟨by rfl, ?_⟩) hS ?_
          rotate_left
          · intro w' hSw; go_simp; try rfl
          try simp only [Act.put, List.getElem_toArray, List.getElem_cons_succ, List.getElem_cons_zero, List.setIfInBounds_toArray, List.set_cons_zero, List.set_cons_succ]
          refine wpAnyH_take (i := 18) (v := ?_) rfl (by kernel_rfl) (by kernel_rfl) (by kernel_rfl) (fun _ _ _ h => h) (Or.inl ⟨by rfl, ?_⟩) hS ?_
          rotate_left
          · intro w' hSw; have s1 := S4.out _ hSw; go_simp; try rfl
          try simp only [Act.put, List.getElem_toArray, List.getElem_cons_succ, List.getElem_cons_zero, List.setIfInBounds_toArray, List.set_cons_zero, List.set_cons_succ]
          refine wpAnyH_take (i := 19) (v := ?_) rfl (by kernel_rfl) (by kernel_rfl) (by kernel_rfl) (fun _ _ _ h => h) (Or.inl ⟨by rfl, ?_⟩) hS ?_
          rotate_left
          · intro w' hSw; go_simp; try rfl
          try simp only [Act.put, List.getElem_toArray, List.getElem_cons_succ, List.getElem_cons_zero, List.setIfInBounds_toArray, List.set_cons_zero, List.set_cons_succ]
          refine wpAnyH_take (i := 20) (v := ?_) rfl (by kernel_rfl) (by kernel_rfl) (by kernel_rfl) (fun _ _ _ h => h) (Or.inl ⟨by rfl, ?_⟩) hS ?_
          rotate_left
          · intro w' hSw; go_simp; try rfl
          try simp only [Act.put, List.getElem_toArray, List.getElem_cons_succ, List.getElem_cons_zero, List.setIfInBounds_toArray, List.set_cons_zero, List.set_cons_succ]
          refine wpAnyH_take (i := 21) (v := ?_) rfl (by kernel_rfl) (by kernel_rfl) (by kernel_rfl) (fun _ _ _ h => h) (Or.inl ⟨by rfl, ?_⟩) hS ?_
          rotate_left
          · intro w' hSw; go_simp; try rfl
          try simp only [Act.put, List.getElem_toArray, List.getElem_cons_succ, List.getElem_cons_zero, List.setIfInBounds_toArray, List.set_cons_zero, List.set_cons_succ]
          refine wpAnyH_take (i := 22) (v := ?_) rfl (by kernel_rfl) (by kernel_rfl) (by kernel_rfl) (fun _ _ _ h => h) (Or.inl ⟨by rfl, ?_⟩) hS ?_
          rotate_left
          · intro w' hSw; have s1 := S5.out _ hSw; go_simp; try rfl
          try simp only [Act.put, List.getElem_toArray, List.getElem_cons_succ, List.getElem_cons_zero, List.setIfInBounds_toArray, List.set_cons_zero, List.set_cons_succ]
          refine wpAnyH_take (i := 23) (v := ?_) rfl (by kernel_rfl) (by kernel_rfl) (by kernel_rfl) (fun _ _ _ h => h) (Or.inl ⟨by rfl, ?_⟩) hS ?_
          rotate_left
          · intro w' hSw; go_simp; try rfl
          try simp only [Act.put, List.getElem_toArray, List.getElem_cons_succ, List.getElem_cons_zero, List.setIfInBounds_toArray, List.set_cons_zero, List.set_cons_succ]
          refine wpAnyH_take (i := 24) (v := ?_) rfl (by kernel_rfl) (by kernel_rfl) (by kernel_rfl) (fun _ _ _ h => h) (Or.inl ⟨by rfl, ?_⟩) hS ?_
          rotate_left
          · intro w' hSw; go_simp; try rfl
          try simp only [Act.put, List.getElem_toArray, List.getElem_cons_succ, List.getElem_cons_zero, List.setIfInBounds_toArray, List.set_cons_zero, List.set_cons_succ]
          refine wpAnyH_take (i := 25) (v := ?_) rfl (by kernel_rfl) (by kernel_rfl) (by kernel_rfl) (fun _ _ _ h => h) (Or.inl ⟨by rfl, ?_⟩) hS ?_
          rotate_left
          · intro w' hSw; go_simp; try rfl
          try simp only [Act.put, List.getElem_toArray, List.getElem_cons_succ, List.getElem_cons_zero, List.setIfInBounds_toArray, List.set_cons_zero, List.set_cons_succ]
          refine wpAnyH_take (i := 26) (v := ?_) rfl (by kernel_rfl) (by kernel_rfl) (by kernel_rfl) (fun _ _ _ h => h) (Or.inl ⟨by rfl, ?_⟩) hS ?_
          rotate_left
          · intro w' hSw; have s1 := S6.out _ hSw; go_simp; try rfl
          try simp only [Act.put, List.getElem_toArray, List.getElem_cons_succ, List.getElem_cons_zero, List.setIfInBounds_toArray, List.set_cons_zero, List.set_cons_succ]
          refine wpAnyH_take (i := 27) (v := (.int .u8 ((wQ cs k ^^^ wQ ds k : Nat) : Int))) rfl (by kernel_rfl) (by kernel_rfl) (by kernel_rfl) (fun _ _ _ h => h) (Or.inl ⟨by rfl, fun w' hSw => ?_⟩) hS ?_
          · go_simp <;> first | rfl | exact hx2
          try simp only [Act.put, List.getElem_toArray, List.getElem_cons_succ, List.getElem_cons_zero, List.setIfInBounds_toArray, List.set_cons_zero, List.set_cons_succ]
          refine wpAnyH_take (i := 28) (v := (.bool false)) rfl (by kernel_rfl) (by kernel_rfl) (by kernel_rfl) (fun _ _ _ h => h) (Or.inl ⟨by rfl, fun w' hSw => ?_⟩) hS ?_
          · go_simp <;> rfl
          try simp only [Act.put, List.getElem_toArray, List.getElem_cons_succ, List.getElem_cons_zero, List.setIfInBounds_toArray, List.set_cons_zero, List.set_cons_succ]
          refine wpAnyH_take (i := 29) (v := (.bool false)) rfl (by kernel_rfl) (by kernel_rfl) (by kernel_rfl) (fun _ _ _ h => h) (Or.inl ⟨by rfl, fun w' hSw => ?_⟩) hS ?_
          · go_simp <;> rfl
          try simp only [Act.put, List.getElem_toArray, List.getElem_cons_succ, List.getElem_cons_zero, List.setIfInBounds_toArray, List.set_cons_zero, List.set_cons_succ]
          refine wpAnyH_done (by kernel_rfl) ?_ _
          go_wp2_with (fail)
          go_roundg (n - (k + 1))
          case measure => have := HQ.out; omega
          case rel => exact ⟨k + 1, by omega, by go_num, rfl, HBD.out⟩
        · obtain rfl : n = k := by omega
          clear hkl
          go_upto_region 25 with (fail)
          have hSB : Below w4.heap.size w4 wr.drew := HBK.out.drew
          refine wp_region_held_drew (S := fun W => Below w4.heap.size w4 W) (by kernel_rfl) hSB (fun hS => ?_)
          clear hSB HBK HQ
          generalize hwd : wr.drew = wd at hS ⊢
          clear hwd
          have HD := Lib.hid hS
          have hmk := mk_run n hn4
          refine wpAnyH_take (i := 0) (v := ?_) rfl (by kernel_rfl) (by kernel_rfl) (by kernel_rfl) (fun _ _ _ h => h) (Or.inl ⟨by rfl, ?_⟩) hS ?_
          rotate_left
          · intro w' hSw; go_simp; try rfl
          try simp only [Act.put, List.getElem_toArray, List.getElem_cons_succ, List.getElem_cons_zero, List.setIfInBounds_toArray, List.set_cons_zero, List.set_cons_succ]
          refine wpAnyH_take (i := 2) (v := ?_) rfl (by kernel_rfl) (by kernel_rfl) (by kernel_rfl) (fun _ _ _ h => h) (Or.inl ⟨by rfl, ?_⟩) hS ?_
          rotate_left
          · intro w' hSw; go_simp; try rfl
          try simp only [Act.put, List.getElem_toArray, List.getElem_cons_succ, List.getElem_cons_zero, List.setIfInBounds_toArray, List.set_cons_zero, List.set_cons_succ]
          refine wpAnyH_take (i := 3) (v := ?_) rfl (by kernel_rfl) (by kernel_rfl) (by kernel_rfl) (fun _ _ _ h => h) (Or.inl ⟨by rfl, ?_⟩) hS ?_
          rotate_left
          · intro w' hSw; go_simp; try rfl
          try simp only [Act.put, List.getElem_toArray, List.getElem_cons_succ, List.getElem_cons_zero, List.setIfInBounds_toArray, List.set_cons_zero, List.set_cons_succ]
          refine wpAnyH_ready (rs := [1, 4]) (by kernel_rfl) (by simp) ?_
          refine AllReadyH.cons rfl (fun K hK => ?_) ?_
          · go_simp
            refine (HCP.out _ (HB04.out.trans (hS.mono HB04.out.size))).mono ?_
            rintro e wA ⟨vc, ys', rfl, hcc, hbc⟩
            have hT := hS.trans (hbc.mono hS.size)
            go_wp2_with (fail)
            refine hK.out _ _ hT (fun hU => ?_)
            clear hK K hU hS
            have hS := hT
            clear hT
            try simp only [Act.put, List.getElem_toArray, List.getElem_cons_succ, List.getElem_cons_zero, List.setIfInBounds_toArray, List.set_cons_zero, List.set_cons_succ]
            refine wpAnyH_ready (rs := [4]) (by kernel_rfl) (by simp) ?_
            refine AllReadyH.cons rfl (fun K hK => ?_) AllReadyH.nil
            go_simp
            refine hK.out _ _ (hS.trans ((balloc wA (.cells (u8n (tab n fun _ => 0)).toArray 5)).mono hS.size)) (fun hU => ?_)
            clear hK K hU
            have hS := hS.trans ((balloc wA (.cells (u8n (tab n fun _ => 0)).toArray 5)).mono hS.size)
            try simp only [Act.put, List.getElem_toArray, List.getElem_cons_succ, List.getElem_cons_zero, List.setIfInBounds_toArray, List.set_cons_zero, List.set_cons_succ]
            refine wpAnyH_ready (rs := [5]) (by kernel_rfl) (by simp) ?_
            refine AllReadyH.cons rfl (fun K hK => ?_) AllReadyH.nil
            go_simp
            refine hK.out _ _ (hS.trans ((balloc (wA.alloc (.cells (u8n (tab n fun _ => 0)).toArray 5)) (.cells #[.slice (some ⟨wA.heap.size, 0, none⟩) n n] 24)).mono hS.size)) (fun hU => ?_)
            clear hK K hU
            have hS := hS.trans ((balloc (wA.alloc (.cells (u8n (tab n fun _ => 0)).toArray 5)) (.cells #[.slice (some ⟨wA.heap.size, 0, none⟩) n n] 24)).mono hS.size)
            try simp only [Act.put, List.getElem_toArray, List.getElem_cons_succ, List.getElem_cons_zero, List.setIfInBounds_toArray, List.set_cons_zero, List.set_cons_succ]
            have HJ := Lib.hid (jn_a hn4 HD.out hcc hbc)
            obtain ⟨v8, ys8, w8, hr8, hc8, hb8⟩ := HJ.out.app hm2
            have HR8 := Lib.hid hr8
            obtain ⟨A8, c8, rfl, hk8, hC8⟩ := hc8.C (by simp; omega)
            have HK8 := Lib.hid hk8
            have HC8 := Lib.hid hC8
            have HB8 := Lib.hid hb8
            clear hr8 hc8 hk8 hC8
            refine wpAnyH_ready (rs := [6]) (by kernel_rfl) (by simp) ?_
            refine AllReadyH.cons rfl (fun K hK => ?_) AllReadyH.nil
            rw [if_pos (by rfl)]
            refine wp_append_ran (.tmp 162) (.tmp 166) 22 rfl _ _ (by rfl) (by rfl) _ w8 (by exact HR8.out) ?_
            refine hK.out _ _ hb8 (fun hU => ?_)
            clear hK K hU hS
            have hS := hb8
            clear hb8
            try simp only [Act.put, List.getElem_toArray, List.getElem_cons_succ, List.getElem_cons_zero, List.setIfInBounds_toArray, List.set_cons_zero, List.set_cons_succ]
            by_cases h30 : cs.length = 30
            · have HEN := Lib.hid (encode_any w8 A8 c8 _ [] [] 1 HC8.out HK8.out (encode_bad _ (zero_bad (n := n) h30)))
              refine wpAnyH_ready (rs := [7]) (by kernel_rfl) (by simp) ?_
              refine AllReadyH.cons rfl (fun K hK => ?_) AllReadyH.nil
              go_simp
              refine (HEN.out).mono ?_
              rintro e w9 ⟨u1, u2, rfl, ho1, ho2, hb9⟩
              have hT := hS.trans (hb9.mono hS.size)
              go_wp2_with (fail)
              refine hK.out _ _ hT (fun hU => ?_)
              clear hK K hU hS
              have hS := hT
              have HB9 := Lib.hid hT
              clear hT
              try simp only [Act.put, List.getElem_toArray, List.getElem_cons_succ, List.getElem_cons_zero, List.setIfInBounds_toArray, List.set_cons_zero, List.set_cons_succ]
              refine wpAnyH_take (i := 8) (v := ?_) rfl (by kernel_rfl) (by kernel_rfl) (by kernel_rfl) (fun _ _ _ h => h) (Or.inl ⟨by rfl, ?_⟩) hS ?_
              rotate_left
              · intro w' hSw; go_simp; try rfl
              try simp only [Act.put, List.getElem_toArray, List.getElem_cons_succ, List.getElem_cons_zero, List.setIfInBounds_toArray, List.set_cons_zero, List.set_cons_succ]
              refine wpAnyH_take (i := 9) (v := ?_) rfl (by kernel_rfl) (by kernel_rfl) (by kernel_rfl) (fun _ _ _ h => h) (Or.inl ⟨by rfl, ?_⟩) hS ?_
              rotate_left
              · intro w' hSw; go_simp; try rfl
              try simp only [Act.put, List.getElem_toArray, List.getElem_cons_succ, List.getElem_cons_zero, List.setIfInBounds_toArray, List.set_cons_zero, List.set_cons_succ]
              refine wpAnyH_take (i := 10) (v := ?_) rfl (by kernel_rfl) (by kernel_rfl) (by kernel_rfl) (fun _ _ _ h => h) (Or.inl ⟨by rfl, ?_⟩) hS ?_
              rotate_left
              · intro w' hSw; go_simp; try rfl
              try simp only [Act.put, List.getElem_toArray, List.getElem_cons_succ, List.getElem_cons_zero, List.setIfInBounds_toArray, List.set_cons_zero, List.set_cons_succ]
              refine wpAnyH_take (i := 11) (v := ?_) rfl (by kernel_rfl) (by kernel_rfl) (by kernel_rfl) (fun _ _ _ h => h) (Or.inl ⟨by rfl, ?_⟩) hS ?_
              rotate_left
              · intro w' hSw; go_simp; try rfl
              try simp only [Act.put, List.getElem_toArray, List.getElem_cons_succ, List.getElem_cons_zero, List.setIfInBounds_toArray, List.set_cons_zero, List.set_cons_succ]
              refine wpAnyH_take (i := 12) (v := ?_) rfl (by kernel_rfl) (by kernel_rfl) (by kernel_rfl) (fun _ _ _ h => h) (Or.inl ⟨by rfl, ?_⟩) hS ?_
              rotate_left
              · intro w' hSw; go_simp; try rfl
              try simp only [Act.put, List.getElem_toArray, List.getElem_cons_succ, List.getElem_cons_zero, List.setIfInBounds_toArray, List.set_cons_zero, List.set_cons_succ]
              refine wpAnyH_take (i := 13) (v := ?_) rfl (by kernel_rfl) (by kernel_rfl) (by kernel_rfl) (fun _ _ _ h => h) (Or.inl ⟨by rfl, ?_⟩) hS ?_
              rotate_left
              · intro w' hSw; go_simp; try rfl
              try simp only [Act.put, List.getElem_toArray, List.getElem_cons_succ, List.getElem_cons_zero, List.setIfInBounds_toArray, List.set_cons_zero, List.set_cons_succ]
              refine wpAnyH_take (i := 14) (v := ?_) rfl (by kernel_rfl) (by kernel_rfl) (by kernel_rfl) (fun _ _ _ h => h) (Or.inl ⟨by rfl, ?_⟩) hS ?_
              rotate_left
              · intro w' hSw; go_simp; try rfl
              try simp only [Act.put, List.getElem_toArray, List.getElem_cons_succ, List.getElem_cons_zero, List.setIfInBounds_toArray, List.set_cons_zero, List.set_cons_succ]
              refine wpAnyH_done (by kernel_rfl) ?_ _
              have e30 : ((cs.length : Int) == 30) = true := bT (by omega)
              go_wp2_with (fail)
              go_ret
              exact ⟨rfl, HB04.out.trans (HB9.out.mono HB04.out.size)⟩
            · have HEN := Lib.hid (encode_any w8 A8 c8 _ _ _ _ HC8.out HK8.out (encode_ok _ n (zero_bytt b0) (zero_good G0.out h30)))
              refine wpAnyH_ready (rs := [7]) (by kernel_rfl) (by simp) ?_
              refine AllReadyH.cons rfl (fun K hK => ?_) AllReadyH.nil
              go_simp
              refine (HEN.out).mono ?_
              rintro e w9 ⟨u1, u2, rfl, ho1, ho2, hb9⟩
              rw [tab_congr (fun k _ => wP_zero cs n k)] at ho1
              rw [tab_congr (fun k _ => wQ_zero cs n k)] at ho2
              obtain ⟨a8, c8', rfl, k8, r8, _⟩ := own_n ho1 (tab_len _ _) hn1
              obtain ⟨a9, c9', rfl, k9, r9, _⟩ := own_n ho2 (tab_len _ _) hn1
              have hT := hS.trans (hb9.mono hS.size)
              have R8 := Lib.hid r8
              have R9 := Lib.hid r9
              go_wp2_with (fail)
              refine hK.out _ _ hT (fun hU => ?_)
              clear hK K hU hS
              have hS := hT
              have HB9 := Lib.hid hT
              clear hT
              try simp only [Act.put, List.getElem_toArray, List.getElem_cons_succ, List.getElem_cons_zero, List.setIfInBounds_toArray, List.set_cons_zero, List.set_cons_succ]
              refine wpAnyH_take (i := 8) (v := ?_) rfl (by kernel_rfl) (by kernel_rfl) (by kernel_rfl) (fun _ _ _ h => h) (Or.inl ⟨by rfl, ?_⟩) hS ?_
              rotate_left
              · intro w' hSw; go_simp; try rfl
              try simp only [Act.put, List.getElem_toArray, List.getElem_cons_succ, List.getElem_cons_zero, List.setIfInBounds_toArray, List.set_cons_zero, List.set_cons_succ]
              refine wpAnyH_take (i := 9) (v := ?_) rfl (by kernel_rfl) (by kernel_rfl) (by kernel_rfl) (fun _ _ _ h => h) (Or.inl ⟨by rfl, ?_⟩) hS ?_
              rotate_left
              · intro w' hSw; go_simp; try rfl
              try simp only [Act.put, List.getElem_toArray, List.getElem_cons_succ, List.getElem_cons_zero, List.setIfInBounds_toArray, List.set_cons_zero, List.set_cons_succ]
              refine wpAnyH_take (i := 10) (v := ?_) rfl (by kernel_rfl) (by kernel_rfl) (by kernel_rfl) (fun _ _ _ h => h) (Or.inl ⟨by rfl, ?_⟩) hS ?_
              rotate_left
              · intro w' hSw; go_simp; try rfl
              try simp only [Act.put, List.getElem_toArray, List.getElem_cons_succ, List.getElem_cons_zero, List.setIfInBounds_toArray, List.set_cons_zero, List.set_cons_succ]
              refine wpAnyH_take (i := 11) (v := ?_) rfl (by kernel_rfl) (by kernel_rfl) (by kernel_rfl) (fun _ _ _ h => h) (Or.inl ⟨by rfl, ?_⟩) hS ?_
              rotate_left
              · intro w' hSw; go_simp; try rfl
              try simp only [Act.put, List.getElem_toArray, List.getElem_cons_succ, List.getElem_cons_zero, List.setIfInBounds_toArray, List.set_cons_zero, List.set_cons_succ]
              refine wpAnyH_take (i := 12) (v := ?_) rfl (by kernel_rfl) (by kernel_rfl) (by kernel_rfl) (fun _ _ _ h => h) (Or.inl ⟨by rfl, ?_⟩) hS ?_
              rotate_left
              · intro w' hSw; go_simp; try rfl
              try simp only [Act.put, List.getElem_toArray, List.getElem_cons_succ, List.getElem_cons_zero, List.setIfInBounds_toArray, List.set_cons_zero, List.set_cons_succ]
              refine wpAnyH_take (i := 13) (v := ?_) rfl (by kernel_rfl) (by kernel_rfl) (by kernel_rfl) (fun _ _ _ h => h) (Or.inl ⟨by rfl, ?_⟩) hS ?_
              rotate_left
              · intro w' hSw; go_simp; try rfl
              try simp only [Act.put, List.getElem_toArray, List.getElem_cons_succ, List.getElem_cons_zero, List.setIfInBounds_toArray, List.set_cons_zero, List.set_cons_succ]
              refine wpAnyH_take (i := 14) (v := ?_) rfl (by kernel_rfl) (by kernel_rfl) (by kernel_rfl) (fun _ _ _ h => h) (Or.inl ⟨by rfl, ?_⟩) hS ?_
              rotate_left
              · intro w' hSw; go_simp; try rfl
              try simp only [Act.put, List.getElem_toArray, List.getElem_cons_succ, List.getElem_cons_zero, List.setIfInBounds_toArray, List.set_cons_zero, List.set_cons_succ]
              refine wpAnyH_done (by kernel_rfl) ?_ _
              have e30 : ((cs.length : Int) == 30) = false := bF (by omega)
              have HSA := Lib.hid (same_any w9 (some a8) c8' (tab n (wP cs)) (some ap) cp R8.out (by rw [I_len, tab_len]; exact k8) (HPR.out.below (HB24.out.trans (HB9.out.mono HB24.out.size))) (by rw [I_len, tab_len]; exact HKP.out) (by rw [tab_len]; exact hn4))
              rw [I_len, tab_len] at HSA
              go_wp2_with (fail)
              refine (HSA.out).mono ?_
              rintro e w10 ⟨rfl, hb10⟩
              have HB10 := Lib.hid (HB9.out.trans (hb10.mono HB9.out.size))
              have HSB := Lib.hid (same_any w10 (some a9) c9' (tab n (wQ cs)) (some aq) cq (R9.out.below hb10) (by rw [I_len, tab_len]; exact k9) (HQR.out.below (HB24.out.trans (HB10.out.mono HB24.out.size))) (by rw [I_len, tab_len]; exact HKQ.out) (by rw [tab_len]; exact hn4))
              rw [I_len, tab_len] at HSB
              go_wp2_with (fail)
              refine (HSB.out).mono ?_
              rintro e w11 ⟨rfl, hb11⟩
              have HB11 := Lib.hid (HB10.out.trans (hb11.mono HB10.out.size))
              go_wp2_with (fail)
              go_ret
              exact ⟨rfl, HB04.out.trans (HB11.out.mono HB04.out.size)⟩
          refine AllReadyH.cons rfl (fun K hK => ?_) AllReadyH.nil
          go_simp
          refine hK.out _ _ (hS.trans ((balloc wd (.cells (u8n (tab n fun _ => 0)).toArray 5)).mono hS.size)) (fun hU => ?_)
          clear hK K hU
          have hS := hS.trans ((balloc wd (.cells (u8n (tab n fun _ => 0)).toArray 5)).mono hS.size)
          try simp only [Act.put, List.getElem_toArray, List.getElem_cons_succ, List.getElem_cons_zero, List.setIfInBounds_toArray, List.set_cons_zero, List.set_cons_succ]
          refine wpAnyH_ready (rs := [1, 5]) (by kernel_rfl) (by simp) ?_
          refine AllReadyH.cons rfl (fun K hK => ?_) ?_
          · go_simp
            refine (HCP.out _ (HB04.out.trans (hS.mono HB04.out.size))).mono ?_
            rintro e wA ⟨vc, ys', rfl, hcc, hbc⟩
            have hT := hS.trans (hbc.mono hS.size)
            go_wp2_with (fail)
            refine hK.out _ _ hT (fun hU => ?_)
            clear hK K hU hS
            have hS := hT
            clear hT
            try simp only [Act.put, List.getElem_toArray, List.getElem_cons_succ, List.getElem_cons_zero, List.setIfInBounds_toArray, List.set_cons_zero, List.set_cons_succ]
            refine wpAnyH_ready (rs := [5]) (by kernel_rfl) (by simp) ?_
            refine AllReadyH.cons rfl (fun K hK => ?_) AllReadyH.nil
            go_simp
            refine hK.out _ _ (hS.trans ((balloc wA (.cells #[.slice (some ⟨wd.heap.size, 0, none⟩) n n] 24)).mono hS.size)) (fun hU => ?_)
            clear hK K hU
            have hS := hS.trans ((balloc wA (.cells #[.slice (some ⟨wd.heap.size, 0, none⟩) n n] 24)).mono hS.size)
            try simp only [Act.put, List.getElem_toArray, List.getElem_cons_succ, List.getElem_cons_zero, List.setIfInBounds_toArray, List.set_cons_zero, List.set_cons_succ]
            have HJ := Lib.hid (jn_b hn4 HD.out hcc hbc)
            obtain ⟨v8, ys8, w8, hr8, hc8, hb8⟩ := HJ.out.app hm2
            have HR8 := Lib.hid hr8
            obtain ⟨A8, c8, rfl, hk8, hC8⟩ := hc8.C (by simp; omega)
            have HK8 := Lib.hid hk8
            have HC8 := Lib.hid hC8
            have HB8 := Lib.hid hb8
            clear hr8 hc8 hk8 hC8
            refine wpAnyH_ready (rs := [6]) (by kernel_rfl) (by simp) ?_
            refine AllReadyH.cons rfl (fun K hK => ?_) AllReadyH.nil
            rw [if_pos (by rfl)]
            refine wp_append_ran (.tmp 162) (.tmp 166) 22 rfl _ _ (by rfl) (by rfl) _ w8 (by exact HR8.out) ?_
            refine hK.out _ _ hb8 (fun hU => ?_)
            clear hK K hU hS
            have hS := hb8
            clear hb8
            try simp only [Act.put, List.getElem_toArray, List.getElem_cons_succ, List.getElem_cons_zero, List.setIfInBounds_toArray, List.set_cons_zero, List.set_cons_succ]
            by_cases h30 : cs.length = 30
            · have HEN := Lib.hid (encode_any w8 A8 c8 _ [] [] 1 HC8.out HK8.out (encode_bad _ (zero_bad (n := n) h30)))
              refine wpAnyH_ready (rs := [7]) (by kernel_rfl) (by simp) ?_
              refine AllReadyH.cons rfl (fun K hK => ?_) AllReadyH.nil
              go_simp
              refine (HEN.out).mono ?_
              rintro e w9 ⟨u1, u2, rfl, ho1, ho2, hb9⟩
              have hT := hS.trans (hb9.mono hS.size)
              go_wp2_with (fail)
              refine hK.out _ _ hT (fun hU => ?_)
              clear hK K hU hS
              have hS := hT
              have HB9 := Lib.hid hT
              clear hT
              try simp only [Act.put, List.getElem_toArray, List.getElem_cons_succ, List.getElem_cons_zero, List.setIfInBounds_toArray, List.set_cons_zero, List.set_cons_succ]
              refine wpAnyH_take (i := 8) (v := ?_) rfl (by kernel_rfl) (by kernel_rfl) (by kernel_rfl) (fun _ _ _ h => h) (Or.inl ⟨by rfl, ?_⟩) hS ?_
              rotate_left
              · intro w' hSw; go_simp; try rfl
              try simp only [Act.put, List.getElem_toArray, List.getElem_cons_succ, List.getElem_cons_zero, List.setIfInBounds_toArray, List.set_cons_zero, List.set_cons_succ]
              refine wpAnyH_take (i := 9) (v := ?_) rfl (by kernel_rfl) (by kernel_rfl) (by kernel_rfl) (fun _ _ _ h => h) (Or.inl ⟨by rfl, ?_⟩) hS ?_
              rotate_left
              · intro w' hSw; go_simp; try rfl
              try simp only [Act.put, List.getElem_toArray, List.getElem_cons_succ, List.getElem_cons_zero, List.setIfInBounds_toArray, List.set_cons_zero, List.set_cons_succ]
              refine wpAnyH_take (i := 10) (v := ?_) rfl (by kernel_rfl) (by kernel_rfl) (by kernel_rfl) (fun _ _ _ h => h) (Or.inl ⟨by rfl, ?_⟩) hS ?_
              rotate_left
              · intro w' hSw; go_simp; try rfl
              try simp only [Act.put, List.getElem_toArray, List.getElem_cons_succ, List.getElem_cons_zero, List.setIfInBounds_toArray, List.set_cons_zero, List.set_cons_succ]
              refine wpAnyH_take (i := 11) (v := ?_) rfl (by kernel_rfl) (by kernel_rfl) (by kernel_rfl) (fun _ _ _ h => h) (Or.inl ⟨by rfl, ?_⟩) hS ?_
              rotate_left
              · intro w' hSw; go_simp; try rfl
              try simp only [Act.put, List.getElem_toArray, List.getElem_cons_succ, List.getElem_cons_zero, List.setIfInBounds_toArray, List.set_cons_zero, List.set_cons_succ]
              refine wpAnyH_take (i := 12) (v := ?_) rfl (by kernel_rfl) (by kernel_rfl) (by kernel_rfl) (fun _ _ _ h => h) (Or.inl ⟨by rfl, ?_⟩) hS ?_
              rotate_left
              · intro w' hSw; go_simp; try rfl
              try simp only [Act.put, List.getElem_toArray, List.getElem_cons_succ, List.getElem_cons_zero, List.setIfInBounds_toArray, List.set_cons_zero, List.set_cons_succ]
              refine wpAnyH_take (i := 13) (v := ?_) rfl (by kernel_rfl) (by kernel_rfl) (by kernel_rfl) (fun _ _ _ h => h) (Or.inl ⟨by rfl, ?_⟩) hS ?_
              rotate_left
              · intro w' hSw; go_simp; try rfl
              try simp only [Act.put, List.getElem_toArray, List.getElem_cons_succ, List.getElem_cons_zero, List.setIfInBounds_toArray, List.set_cons_zero, List.set_cons_succ]
              refine wpAnyH_take (i := 14) (v := ?_) rfl (by kernel_rfl) (by kernel_rfl) (by kernel_rfl) (fun _ _ _ h => h) (Or.inl ⟨by rfl, ?_⟩) hS ?_
              rotate_left
              · intro w' hSw; go_simp; try rfl
              try simp only [Act.put, List.getElem_toArray, List.getElem_cons_succ, List.getElem_cons_zero, List.setIfInBounds_toArray, List.set_cons_zero, List.set_cons_succ]
              refine wpAnyH_done (by kernel_rfl) ?_ _
              have e30 : ((cs.length : Int) == 30) = true := bT (by omega)
              go_wp2_with (fail)
              go_ret
              exact ⟨rfl, HB04.out.trans (HB9.out.mono HB04.out.size)⟩
            · have HEN := Lib.hid (encode_any w8 A8 c8 _ _ _ _ HC8.out HK8.out (encode_ok _ n (zero_bytt b0) (zero_good G0.out h30)))
              refine wpAnyH_ready (rs := [7]) (by kernel_rfl) (by simp) ?_
              refine AllReadyH.cons rfl (fun K hK => ?_) AllReadyH.nil
              go_simp
              refine (HEN.out).mono ?_
              rintro e w9 ⟨u1, u2, rfl, ho1, ho2, hb9⟩
              rw [tab_congr (fun k _ => wP_zero cs n k)] at ho1
              rw [tab_congr (fun k _ => wQ_zero cs n k)] at ho2
              obtain ⟨a8, c8', rfl, k8, r8, _⟩ := own_n ho1 (tab_len _ _) hn1
              obtain ⟨a9, c9', rfl, k9, r9, _⟩ := own_n ho2 (tab_len _ _) hn1
              have hT := hS.trans (hb9.mono hS.size)
              have R8 := Lib.hid r8
              have R9 := Lib.hid r9
              go_wp2_with (fail)
              refine hK.out _ _ hT (fun hU => ?_)
              clear hK K hU hS
              have hS := hT
              have HB9 := Lib.hid hT
              clear hT
              try simp only [Act.put, List.getElem_toArray, List.getElem_cons_succ, List.getElem_cons_zero, List.setIfInBounds_toArray, List.set_cons_zero, List.set_cons_succ]
              refine wpAnyH_take (i := 8) (v := ?_) rfl (by kernel_rfl) (by kernel_rfl) (by kernel_rfl) (fun _ _ _ h => h) (Or.inl ⟨by rfl, ?_⟩) hS ?_
              rotate_left
              · intro w' hSw; go_simp; try rfl
              try simp only [Act.put, List.getElem_toArray, List.getElem_cons_succ, List.getElem_cons_zero, List.setIfInBounds_toArray, List.set_cons_zero, List.set_cons_succ]
              refine wpAnyH_take (i := 9) (v := ?_) rfl (by kernel_rfl) (by kernel_rfl) (by kernel_rfl) (fun _ _ _ h => h) (Or.inl ⟨by rfl, ?_⟩) hS ?_
              rotate_left
              · intro w' hSw; go_simp; try rfl
              try simp only [Act.put, List.getElem_toArray, List.getElem_cons_succ, List.getElem_cons_zero, List.setIfInBounds_toArray, List.set_cons_zero, List.set_cons_succ]
              refine wpAnyH_take (i := 10) (v := ?_) rfl (by kernel_rfl) (by kernel_rfl) (by kernel_rfl) (fun _ _ _ h => h) (Or.inl ⟨by rfl, ?_⟩) hS ?_
              rotate_left
              · intro w' hSw; go_simp; try rfl
              try simp only [Act.put, List.getElem_toArray, List.getElem_cons_succ, List.getElem_cons_zero, List.setIfInBounds_toArray, List.set_cons_zero, List.set_cons_succ]
              refine wpAnyH_take (i := 11) (v := ?_) rfl (by kernel_rfl) (by kernel_rfl) (by kernel_rfl) (fun _ _ _ h => h) (Or.inl ⟨by rfl, ?_⟩) hS ?_
              rotate_left
              · intro w' hSw; go_simp; try rfl
              try simp only [Act.put, List.getElem_toArray, List.getElem_cons_succ, List.getElem_cons_zero, List.setIfInBounds_toArray, List.set_cons_zero, List.set_cons_succ]
              refine wpAnyH_take (i := 12) (v := ?_) rfl (by kernel_rfl) (by kernel_rfl) (by kernel_rfl) (fun _ _ _ h => h) (Or.inl ⟨by rfl, ?_⟩) hS ?_
              rotate_left
              · intro w' hSw; go_simp; try rfl
              try simp only [Act.put, List.getElem_toArray, List.getElem_cons_succ, List.getElem_cons_zero, List.setIfInBounds_toArray, List.set_cons_zero, List.set_cons_succ]
              refine wpAnyH_take (i := 13) (v := ?_) rfl (by kernel_rfl) (by kernel_rfl) (by kernel_rfl) (fun _ _ _ h => h) (Or.inl ⟨by rfl, ?_⟩) hS ?_
              rotate_left
              · intro w' hSw; go_simp; try rfl
              try simp only [Act.put, List.getElem_toArray, List.getElem_cons_succ, List.getElem_cons_zero, List.setIfInBounds_toArray, List.set_cons_zero, List.set_cons_succ]
              refine wpAnyH_take (i := 14) (v := ?_) rfl (by kernel_rfl) (by kernel_rfl) (by kernel_rfl) (fun _ _ _ h => h) (Or.inl ⟨by rfl, ?_⟩) hS ?_
              rotate_left
              · intro w' hSw; go_simp; try rfl
              try simp only [Act.put, List.getElem_toArray, List.getElem_cons_succ, List.getElem_cons_zero, List.setIfInBounds_toArray, List.set_cons_zero, List.set_cons_succ]
              refine wpAnyH_done (by kernel_rfl) ?_ _
              have e30 : ((cs.length : Int) == 30) = false := bF (by omega)
              have HSA := Lib.hid (same_any w9 (some a8) c8' (tab n (wP cs)) (some ap) cp R8.out (by rw [I_len, tab_len]; exact k8) (HPR.out.below (HB24.out.trans (HB9.out.mono HB24.out.size))) (by rw [I_len, tab_len]; exact HKP.out) (by rw [tab_len]; exact hn4))
              rw [I_len, tab_len] at HSA
              go_wp2_with (fail)
              refine (HSA.out).mono ?_
              rintro e w10 ⟨rfl, hb10⟩
              have HB10 := Lib.hid (HB9.out.trans (hb10.mono HB9.out.size))
              have HSB := Lib.hid (same_any w10 (some a9) c9' (tab n (wQ cs)) (some aq) cq (R9.out.below hb10) (by rw [I_len, tab_len]; exact k9) (HQR.out.below (HB24.out.trans (HB10.out.mono HB24.out.size))) (by rw [I_len, tab_len]; exact HKQ.out) (by rw [tab_len]; exact hn4))
              rw [I_len, tab_len] at HSB
              go_wp2_with (fail)
              refine (HSB.out).mono ?_
              rintro e w11 ⟨rfl, hb11⟩
              have HB11 := Lib.hid (HB10.out.trans (hb11.mono HB10.out.size))
              go_wp2_with (fail)
              go_ret
              exact ⟨rfl, HB04.out.trans (HB11.out.mono HB04.out.size)⟩
          refine AllReadyH.cons rfl (fun K hK => ?_) AllReadyH.nil
          go_simp
          refine hK.out _ _ (hS.trans ((balloc (wd.alloc (.cells (u8n (tab n fun _ => 0)).toArray 5)) (.cells #[.slice (some ⟨wd.heap.size, 0, none⟩) n n] 24)).mono hS.size)) (fun hU => ?_)
          clear hK K hU
          have hS := hS.trans ((balloc (wd.alloc (.cells (u8n (tab n fun _ => 0)).toArray 5)) (.cells #[.slice (some ⟨wd.heap.size, 0, none⟩) n n] 24)).mono hS.size)
          try simp only [Act.put, List.getElem_toArray, List.getElem_cons_succ, List.getElem_cons_zero, List.setIfInBounds_toArray, List.set_cons_zero, List.set_cons_succ]
          refine wpAnyH_ready (rs := [1]) (by kernel_rfl) (by simp) ?_
          refine AllReadyH.cons rfl (fun K hK => ?_) AllReadyH.nil
          go_simp
          refine (HCP.out _ (HB04.out.trans (hS.mono HB04.out.size))).mono ?_
          rintro e wA ⟨vc, ys', rfl, hcc, hbc⟩
          have hT := hS.trans (hbc.mono hS.size)
          go_wp2_with (fail)
          refine hK.out _ _ hT (fun hU => ?_)
          clear hK K hU hS
          have hS := hT
          clear hT
          try simp only [Act.put, List.getElem_toArray, List.getElem_cons_succ, List.getElem_cons_zero, List.setIfInBounds_toArray, List.set_cons_zero, List.set_cons_succ]
          have HJ := Lib.hid (jn_c hn4 HD.out hcc hbc)
          obtain ⟨v8, ys8, w8, hr8, hc8, hb8⟩ := HJ.out.app hm2
          have HR8 := Lib.hid hr8
          obtain ⟨A8, c8, rfl, hk8, hC8⟩ := hc8.C (by simp; omega)
          have HK8 := Lib.hid hk8
          have HC8 := Lib.hid hC8
          have HB8 := Lib.hid hb8
          clear hr8 hc8 hk8 hC8
          refine wpAnyH_ready (rs := [6]) (by kernel_rfl) (by simp) ?_
          refine AllReadyH.cons rfl (fun K hK => ?_) AllReadyH.nil
          rw [if_pos (by rfl)]
          refine wp_append_ran (.tmp 162) (.tmp 166) 22 rfl _ _ (by rfl) (by rfl) _ w8 (by exact HR8.out) ?_
          refine hK.out _ _ hb8 (fun hU => ?_)
          clear hK K hU hS
          have hS := hb8
          clear hb8
          try simp only [Act.put, List.getElem_toArray, List.getElem_cons_succ, List.getElem_cons_zero, List.setIfInBounds_toArray, List.set_cons_zero, List.set_cons_succ]
          by_cases h30 : cs.length = 30
          · have HEN := Lib.hid (encode_any w8 A8 c8 _ [] [] 1 HC8.out HK8.out (encode_bad _ (zero_bad (n := n) h30)))
            refine wpAnyH_ready (rs := [7]) (by kernel_rfl) (by simp) ?_
            refine AllReadyH.cons rfl (fun K hK => ?_) AllReadyH.nil
            go_simp
            refine (HEN.out).mono ?_
            rintro e w9 ⟨u1, u2, rfl, ho1, ho2, hb9⟩
            have hT := hS.trans (hb9.mono hS.size)
            go_wp2_with (fail)
            refine hK.out _ _ hT (fun hU => ?_)
            clear hK K hU hS
            have hS := hT
            have HB9 := Lib.hid hT
            clear hT
            try simp only [Act.put, List.getElem_toArray, List.getElem_cons_succ, List.getElem_cons_zero, List.setIfInBounds_toArray, List.set_cons_zero, List.set_cons_succ]
            refine wpAnyH_take (i := 8) (v := ?_) rfl (by kernel_rfl) (by kernel_rfl) (by kernel_rfl) (fun _ _ _ h => h) (Or.inl ⟨by rfl, ?_⟩) hS ?_
            rotate_left
            · intro w' hSw; go_simp; try rfl
            try simp only [Act.put, List.getElem_toArray, List.getElem_cons_succ, List.getElem_cons_zero, List.setIfInBounds_toArray, List.set_cons_zero, List.set_cons_succ]
            refine wpAnyH_take (i := 9) (v := ?_) rfl (by kernel_rfl) (by kernel_rfl) (by kernel_rfl) (fun _ _ _ h => h) (Or.inl ⟨by rfl, ?_⟩) hS ?_
            rotate_left
            · intro w' hSw; go_simp; try rfl
            try simp only [Act.put, List.getElem_toArray, List.getElem_cons_succ, List.getElem_cons_zero, List.setIfInBounds_toArray, List.set_cons_zero, List.set_cons_succ]
            refine wpAnyH_take (i := 10) (v := ?_) rfl (by kernel_rfl) (by kernel_rfl) (by kernel_rfl) (fun _ _ _ h => h) (Or.inl ⟨by rfl, ?_⟩) hS ?_
            rotate_left
            · intro w' hSw; go_simp; try rfl
            try simp only [Act.put, List.getElem_toArray, List.getElem_cons_succ, List.getElem_cons_zero, List.setIfInBounds_toArray, List.set_cons_zero, List.set_cons_succ]
            refine wpAnyH_take (i := 11) (v := ?_) rfl (by kernel_rfl) (by kernel_rfl) (by kernel_rfl) (fun _ _ _ h => h) (Or.inl ⟨by rfl, ?_⟩) hS ?_
            rotate_left
            · intro w' hSw; go_simp; try rfl
            try simp only [Act.put, List.getElem_toArray, List.getElem_cons_succ, List.getElem_cons_zero, List.setIfInBounds_toArray, List.set_cons_zero, List.set_cons_succ]
            refine wpAnyH_take (i := 12) (v := ?_) rfl (by kernel_rfl) (by kernel_rfl) (by kernel_rfl) (fun _ _ _ h => h) (Or.inl ⟨by rfl, ?_⟩) hS ?_
            rotate_left
            · intro w' hSw; go_simp; try rfl
            try simp only [Act.put, List.getElem_toArray, List.getElem_cons_succ, List.getElem_cons_zero, List.setIfInBounds_toArray, List.set_cons_zero, List.set_cons_succ]
            refine wpAnyH_take (i := 13) (v := ?_) rfl (by kernel_rfl) (by kernel_rfl) (by kernel_rfl) (fun _ _ _ h => h) (Or.inl ⟨by rfl, ?_⟩) hS ?_
            rotate_left
            · intro w' hSw; go_simp; try rfl
            try simp only [Act.put, List.getElem_toArray, List.getElem_cons_succ, List.getElem_cons_zero, List.setIfInBounds_toArray, List.set_cons_zero, List.set_cons_succ]
            refine wpAnyH_take (i := 14) (v := ?_) rfl (by kernel_rfl) (by kernel_rfl) (by kernel_rfl) (fun _ _ _ h => h) (Or.inl ⟨by rfl, ?_⟩) hS ?_
            rotate_left
            · intro w' hSw; go_simp; try rfl
            try simp only [Act.put, List.getElem_toArray, List.getElem_cons_succ, List.getElem_cons_zero, List.setIfInBounds_toArray, List.set_cons_zero, List.set_cons_succ]
            refine wpAnyH_done (by kernel_rfl) ?_ _
            have e30 : ((cs.length : Int) == 30) = true := bT (by omega)
            go_wp2_with (fail)
            go_ret
            exact ⟨rfl, HB04.out.trans (HB9.out.mono HB04.out.size)⟩
          · have HEN := Lib.hid (encode_any w8 A8 c8 _ _ _ _ HC8.out HK8.out (encode_ok _ n (zero_bytt b0) (zero_good G0.out h30)))
            refine wpAnyH_ready (rs := [7]) (by kernel_rfl) (by simp) ?_
            refine AllReadyH.cons rfl (fun K hK => ?_) AllReadyH.nil
            go_simp
            refine (HEN.out).mono ?_
            rintro e w9 ⟨u1, u2, rfl, ho1, ho2, hb9⟩
            rw [tab_congr (fun k _ => wP_zero cs n k)] at ho1
            rw [tab_congr (fun k _ => wQ_zero cs n k)] at ho2
            obtain ⟨a8, c8', rfl, k8, r8, _⟩ := own_n ho1 (tab_len _ _) hn1
            obtain ⟨a9, c9', rfl, k9, r9, _⟩ := own_n ho2 (tab_len _ _) hn1
            have hT := hS.trans (hb9.mono hS.size)
            have R8 := Lib.hid r8
            have R9 := Lib.hid r9
            go_wp2_with (fail)
            refine hK.out _ _ hT (fun hU => ?_)
            clear hK K hU hS
            have hS := hT
            have HB9 := Lib.hid hT
            clear hT
            try simp only [Act.put, List.getElem_toArray, List.getElem_cons_succ, List.getElem_cons_zero, List.setIfInBounds_toArray, List.set_cons_zero, List.set_cons_succ]
            refine wpAnyH_take (i := 8) (v := ?_) rfl (by kernel_rfl) (by kernel_rfl) (by kernel_rfl) (fun _ _ _ h => h) (Or.inl ⟨by rfl, ?_⟩) hS ?_
            rotate_left
            · intro w' hSw; go_simp; try rfl
            try simp only [Act.put, List.getElem_toArray, List.getElem_cons_succ, List.getElem_cons_zero, List.setIfInBounds_toArray, List.set_cons_zero, List.set_cons_succ]
            refine wpAnyH_take (i := 9) (v := ?_) rfl (by kernel_rfl) (by kernel_rfl) (by kernel_rfl) (fun _ _ _ h => h) (Or.inl ⟨by rfl, ?_⟩) hS ?_
            rotate_left
            · intro w' hSw; go_simp; try rfl
            try simp only [Act.put, List.getElem_toArray, List.getElem_cons_succ, List.getElem_cons_zero, List.setIfInBounds_toArray, List.set_cons_zero, List.set_cons_succ]
            refine wpAnyH_take (i := 10) (v := ?_) rfl (by kernel_rfl) (by kernel_rfl) (by kernel_rfl) (fun _ _ _ h => h) (Or.inl ⟨by rfl, ?_⟩) hS ?_
            rotate_left
            · intro w' hSw; go_simp; try rfl
            try simp only [Act.put, List.getElem_toArray, List.getElem_cons_succ, List.getElem_cons_zero, List.setIfInBounds_toArray, List.set_cons_zero, List.set_cons_succ]
            refine wpAnyH_take (i := 11) (v := ?_) rfl (by kernel_rfl) (by kernel_rfl) (by kernel_rfl) (fun _ _ _ h => h) (Or.inl ⟨by rfl, ?_⟩) hS ?_
            rotate_left
            · intro w' hSw; go_simp; try rfl
            try simp only [Act.put, List.getElem_toArray, List.getElem_cons_succ, List.getElem_cons_zero, List.setIfInBounds_toArray, List.set_cons_zero, List.set_cons_succ]
            refine wpAnyH_take (i := 12) (v := ?_) rfl (by kernel_rfl) (by kernel_rfl) (by kernel_rfl) (fun _ _ _ h => h) (Or.inl ⟨by rfl, ?_⟩) hS ?_
            rotate_left
            · intro w' hSw; go_simp; try rfl
            try simp only [Act.put, List.getElem_toArray, List.getElem_cons_succ, List.getElem_cons_zero, List.setIfInBounds_toArray, List.set_cons_zero, List.set_cons_succ]
            refine wpAnyH_take (i := 13) (v := ?_) rfl (by kernel_rfl) (by kernel_rfl) (by kernel_rfl) (fun _ _ _ h => h) (Or.inl ⟨by rfl, ?_⟩) hS ?_
            rotate_left
            · intro w' hSw; go_simp; try rfl
            try simp only [Act.put, List.getElem_toArray, List.getElem_cons_succ, List.getElem_cons_zero, List.setIfInBounds_toArray, List.set_cons_zero, List.set_cons_succ]
            refine wpAnyH_take (i := 14) (v := ?_) rfl (by kernel_rfl) (by kernel_rfl) (by kernel_rfl) (fun _ _ _ h => h) (Or.inl ⟨by rfl, ?_⟩) hS ?_
            rotate_left
            · intro w' hSw; go_simp; try rfl
            try simp only [Act.put, List.getElem_toArray, List.getElem_cons_succ, List.getElem_cons_zero, List.setIfInBounds_toArray, List.set_cons_zero, List.set_cons_succ]
            refine wpAnyH_done (by kernel_rfl) ?_ _
            have e30 : ((cs.length : Int) == 30) = false := bF (by omega)
            have HSA := Lib.hid (same_any w9 (some a8) c8' (tab n (wP cs)) (some ap) cp R8.out (by rw [I_len, tab_len]; exact k8) (HPR.out.below (HB24.out.trans (HB9.out.mono HB24.out.size))) (by rw [I_len, tab_len]; exact HKP.out) (by rw [tab_len]; exact hn4))
            rw [I_len, tab_len] at HSA
            go_wp2_with (fail)
            refine (HSA.out).mono ?_
            rintro e w10 ⟨rfl, hb10⟩
            have HB10 := Lib.hid (HB9.out.trans (hb10.mono HB9.out.size))
            have HSB := Lib.hid (same_any w10 (some a9) c9' (tab n (wQ cs)) (some aq) cq (R9.out.below hb10) (by rw [I_len, tab_len]; exact k9) (HQR.out.below (HB24.out.trans (HB10.out.mono HB24.out.size))) (by rw [I_len, tab_len]; exact HKQ.out) (by rw [tab_len]; exact hn4))
            rw [I_len, tab_len] at HSB
            go_wp2_with (fail)
            refine (HSB.out).mono ?_
            rintro e w11 ⟨rfl, hb11⟩
            have HB11 := Lib.hid (HB10.out.trans (hb11.mono HB10.out.size))
            go_wp2_with (fail)
            go_ret
            exact ⟨rfl, HB04.out.trans (HB11.out.mono HB04.out.size)⟩
end Go.Proofs.Ythjodjfjeamilaa.Wd
