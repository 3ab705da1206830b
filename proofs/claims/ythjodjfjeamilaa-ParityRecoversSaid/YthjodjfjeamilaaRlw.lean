/- ParityRecovers, walked. -/
import Derived.Test.YthjodjfjeamilaaRrA
import Derived.Test.YthjodjfjeamilaaOpn
set_option linter.unusedVariables false
set_option linter.unusedSimpArgs false
namespace Go.Proofs.Ythjodjfjeamilaa.Wd
open Go Go.RowKit Go.Proofs.YthjodjfjeamilaaW.PrintWords Go.Proofs.YthjodjfjeamilaaW.PrintLast Go.Proofs.YthjodjfjeamilaaW.PrintMore Go.Proofs.Ythjodjfjeamilaa.Bridge Go.Proofs.Ythjodjfjeamilaa.PA Go.Proofs.Ythjodjfjeamilaa.PB Go.Proofs.Ythjodjfjeamilaa.BrPA Go.Proofs.Ythjodjfjeamilaa.Pur
theorem copies_big (w : World) (A : Option Addr) (c : Nat) (cs : List (List Nat)) (hr : Kd.C (Kd.slice 5 (Kd.int .u8)) w A (II cs).length (II cs)) (hc : (II cs).length ≤ c) (hn : cs.length ≤ 5864062014805) (hl : ∀ c ∈ cs, c.length < 140737488355328) :
    Calls Try.prog 10 #[.slice A (II cs).length c] w fun e w' => ∃ v ys, e = .returned v ∧ Cols w' w.heap.size v ys cs ∧ Below w.heap.size w w' := by
  obtain ⟨k, hk⟩ := (copies_ev (II cs) (by rw [II_len]; omega) (fun d hd => by obtain ⟨x, hx, rfl⟩ := List.mem_map.1 hd; rw [I_len]; have := hl x hx; omega)).rounds
  refine (ravelinlaw05_copies.calls k A c (II cs) _ w hr hc hk).mono ?_
  rintro e w' ⟨v, he, h1, h3⟩
  obtain ⟨ys, hy⟩ := Cols.of_S h1
  exact ⟨v, ys, he, hy, h3⟩
theorem same_big (w : World) (A0 : Option Addr) (c0 : Nat) (l : List Nat) (A1 : Option Addr) (c1 : Nat) (h0 : RdB w A0 l) (k0 : (I l).length ≤ c0) (h1 : RdB w A1 l) (k1 : (I l).length ≤ c1) (hl : l.length < 4611686018427387904) :
    Calls Try.prog 14 #[.slice A0 (I l).length c0, .slice A1 (I l).length c1] w fun e w' => e = .returned (.bool true) ∧ Below w.heap.size w w' := by
  obtain ⟨k, hk⟩ := (lsame_ev (I l) (I l) (by rw [I_len]; omega)).rounds
  rw [decide_eq_true rfl] at hk
  refine (ravelinlaw05_same.calls k A0 c0 _ A1 c1 _ _ w h0 k0 h1 k1 hk).mono ?_
  rintro e w' ⟨he, hd⟩
  exact ⟨he, hd.below⟩
theorem scols_any (w : World) (A0 : Option Addr) (c0 : Nat) (l : List (List Nat)) (A1 : Option Addr) (c1 : Nat) (h0 : Kd.C (Kd.slice 5 (Kd.int .u8)) w A0 (II l).length (II l)) (k0 : (II l).length ≤ c0) (h1 : Kd.C (Kd.slice 5 (Kd.int .u8)) w A1 (II l).length (II l)) (k1 : (II l).length ≤ c1) (hl : l.length < 4611686018427387904) (hc : ∀ c ∈ l, c.length < 4611686018427387904) :
    Calls Try.prog 15 #[.slice A0 (II l).length c0, .slice A1 (II l).length c1] w fun e w' => e = .returned (.bool true) ∧ Below w.heap.size w w' := by
  obtain ⟨k, hk⟩ := (cols_ev (II l) (II l) (by rw [II_len]; omega) (fun d hd => by obtain ⟨x, hx, rfl⟩ := List.mem_map.1 hd; rw [I_len]; have := hc x hx; omega)).rounds
  rw [decide_eq_true rfl] at hk
  refine (ravelinref05_SameCols.calls k A0 c0 _ A1 c1 _ _ w h0 k0 h1 k1 hk).mono ?_
  rintro e w' ⟨he, hd⟩
  exact ⟨he, hd.below⟩
theorem copy_big (W : World) (A : Option Addr) (c : Nat) (l : List Nat) (h : RdB W A l) (hl : l.length ≤ 140737488351232) :
    ∃ v' w1, (Builtin.append_ #[24, 24] 24 #[.slice (some ⟨W.heap.size, 0, none⟩) 0 0, .slice A (I l).length c]).run Try.prog (W.alloc (.cells #[] 5)) = .ok v' w1 ∧ Own w1 W.heap.size v' l ∧ Below W.heap.size W w1 := by
  have B1 : Below W.heap.size W (W.alloc (.cells #[] 5)) := balloc W _
  have O1 : (W.alloc (.cells #[] 5)).ownsRow W.heap.size 5 1 (.slice (some ⟨W.heap.size, 0, none⟩) 0 0) 0 [] := World.ownsRow_lit W #[] 0 (Nat.le_refl _) (by unfold maxLen; omega) rfl
  obtain ⟨i0, hi0, hz0, hz1, hz2⟩ := info_parts info5b
  cases A with
  | none =>
    obtain rfl : l = [] := by
      rcases Nat.eq_zero_or_pos l.length with h0 | h0
      · exact List.eq_nil_of_length_eq_zero h0
      · obtain ⟨a, hA, _⟩ := h.2.2 (by rw [I_len]; exact h0)
        cases hA
    exact ⟨_, _, run_append_none_b W.heap.size 24 24 5 i0 1 c Try.underlying24 hi0 _ 0 [] O1, O1, B1⟩
  | some a =>
    have hr := Kd.reads_of_C (d := (0 : Int)) (h.below B1)
    obtain ⟨v', w', hrun, h3, h4, _, _⟩ := run_append_own_at (P := Try.prog) (W.alloc (.cells #[] 5)) W.heap.size 24 24 5 i0 (.int .u8 0) 1 1 Try.underlying24 hi0 hz0 hz1 hz2 rfl (by decide) _ 0 [] O1 a (I l).length c (u8n l) (by rw [u8n_len, I_len, Nat.mul_one]) (fun j u hj => by
      have hjl : j < (I l).length := by have := (List.getElem?_eq_some_iff.1 hj).1; rw [u8n_len] at this; rw [I_len]; exact this
      obtain ⟨a', hA, hx⟩ := hr.2.2 (by omega)
      injection hA with hA
      subst hA
      rw [hx j hjl]
      unfold u8n at hj
      rw [encs_get (d := 0) _ _ hjl] at hj
      exact hj) (fun y hy => by unfold u8n encs at hy; obtain ⟨z, _, rfl⟩ := List.mem_map.1 hy; rfl) (by rw [I_len]; unfold maxLen; omega) (by rw [I_len]; omega) (by simp)
    rw [Nat.zero_add, List.nil_append, I_len] at h3
    exact ⟨v', w', hrun, h3, B1.grown h4 (by simp) (fun q hq => by simp [Value.ownBlock] at hq; omega)⟩
/-- What Recover answers is small. -/
structure Sml (R : List (List Nat) × List Nat × List Nat × Int) : Prop where
  n : R.1.length ≤ 30
  c : ∀ c ∈ R.1, c.length ≤ 4096
  p : R.2.1.length ≤ 4096
  q : R.2.2.1.length ≤ 4096
theorem rcv_small (cs : List (List Nat)) (p q : List Nat) : Sml (rcv cs p q) := by
  unfold rcv
  by_cases h0 : (rcvW cs p q).1 = 0
  · rw [if_pos h0]; exact ⟨by simp, by simp, by simp, by simp⟩
  · rw [if_neg h0]
    by_cases h1 : 2 < (rcvW cs p q).2
    · rw [if_pos h1]; exact ⟨by simp, by simp, by simp, by simp⟩
    · rw [if_neg h1]
      have hw : ¬ (cs.length < 1 ∨ 30 < cs.length) := fun h => h0 (by unfold rcvW; rw [if_pos h])
      have e : rcvW cs p q = wid (lens (cs ++ [p, q])) := by unfold rcvW; rw [if_neg hw]
      rcases wid_cases (lens (cs ++ [p, q])) with ⟨n, l, hs, _, h2'⟩ | ⟨_, _, h2'⟩
      · rw [e, h2']
        have hn := hs.lim
        have hle : ∀ c ∈ cs ++ [p, q], c.length ≤ n := fun c hc => by rcases hs.all _ (List.mem_map.2 ⟨c, hc, rfl⟩) with h | h <;> omega
        have hp := hle p (by simp)
        have hq := hle q (by simp)
        refine ⟨by rw [fill_len]; omega, fun c hc => Nat.le_trans (fill_le (fun c hc => hle c (List.mem_append_left _ hc)) c hc) hn, ?_, ?_⟩
        · simp only
          split
          · rw [tab_len]; omega
          · omega
        · simp only
          split
          · rw [tab_len]; omega
          · omega
      · exact absurd (by rw [e]; exact h2') h0
/-- Nines are written over what Recover has answered. -/
structure Nine (w4 W : World) (v : Value) (ys : List Value) (L : List Nat) (vx : Value) (nx : Nat) (vy : Value) (ny : Nat) : Prop where
  c : ∃ ds, lens ds = L ∧ Cols W w4.heap.size v ys ds
  x : ∃ d, d.length = nx ∧ Own W w4.heap.size vx d
  y : ∃ d, d.length = ny ∧ Own W w4.heap.size vy d
  b : Below w4.heap.size w4 W
theorem lens_len (ds : List (List Nat)) : (lens ds).length = ds.length := by simp [lens]
theorem lens_getD (ds : List (List Nat)) (i : Nat) : (lens ds).getD i 0 = (ds.getD i []).length := by
  unfold lens
  rw [List.getD_eq_getElem?_getD, List.getD_eq_getElem?_getD, List.getElem?_map]
  rcases ds[i]? with _ | d <;> rfl
theorem Own.put {W : World} {base r m cap k : Nat} {l : List Nat} (h : Own W base (.slice (some ⟨r, 0, none⟩) m cap) l) : Own (W.setCell ⟨r, k, none⟩ (.int .u8 9)) base (.slice (some ⟨r, 0, none⟩) m cap) (l.set k 9) := by
  have h1 := own_set (k := k) h (.int .u8 9)
  unfold Own
  rw [List.length_set]
  have e : u8n (l.set k 9) = (u8n l).set k (.int .u8 9) := by
    unfold u8n encs
    rw [← I_set, List.map_set]; rfl
  rw [e]
  exact h1
section
variable {w4 W : World} {v : Value} {ys : List Value} {L : List Nat} {vx : Value} {nx : Nat} {vy : Value} {ny : Nat}
theorem Nine.at (h : Nine w4 W v ys L vx nx vy ny) {i ra m ca : Nat} (hv : v = .slice (some ⟨ra, 0, none⟩) m ca) (hi : i < L.length) : ∃ A c, ys[i]? = some (.slice A (L.getD i 0) c) ∧ W.cell? ⟨ra, i, none⟩ = some (.slice A (L.getD i 0) c) := by
  obtain ⟨ds, hL, hc⟩ := h.c
  have hid : i < ds.length := by rw [← hL, lens_len] at hi; exact hi
  have hy : ys[i]? = some (ys[i]'(by rw [hc.len]; exact hid)) := List.getElem?_eq_getElem _
  have ho := hc.el i _ _ hy (List.getElem?_eq_getElem hid)
  obtain ⟨A, c, he, _, _⟩ := ho.form
  have e : (I ds[i]).length = L.getD i 0 := by rw [I_len, ← hL, lens_getD, getD_of hid]
  rw [he, e] at hy
  subst hv
  exact ⟨A, c, hy, (own_cell hc.own (j := i) (by omega)).trans hy⟩
theorem Nine.addr (h : Nine w4 W v ys L vx nx vy ny) {i n c : Nat} {A : Option Addr} (hy : ys[i]? = some (.slice A n c)) (hi : i < L.length) (h0 : 0 < L.getD i 0) : ∃ r, A = some ⟨r, 0, none⟩ := by
  obtain ⟨ds, hL, hc⟩ := h.c
  have hid : i < ds.length := by rw [← hL, lens_len] at hi; exact hi
  have ho := hc.el i _ _ hy (List.getElem?_eq_getElem hid)
  rw [← hL, lens_getD, getD_of hid] at h0
  obtain ⟨r, hA, _, _⟩ := own_addr ho h0
  exact ⟨r, hA⟩
theorem Nine.putC (h : Nine w4 W v ys L vx nx vy ny) {i k r n c : Nat} (hy : ys[i]? = some (.slice (some ⟨r, 0, none⟩) n c)) (hi : i < L.length) (hk : k < L.getD i 0) (hx : vx.ownBlock ≠ some r) (hyy : vy.ownBlock ≠ some r) :
    (∃ u, W.cell? ⟨r, k, none⟩ = some u) ∧ W.frozen? ⟨r, k, none⟩ = false ∧ Nine w4 (W.setCell ⟨r, k, none⟩ (.int .u8 9)) v ys L vx nx vy ny := by
  obtain ⟨ds, hL, hc⟩ := h.c
  have hid : i < ds.length := by rw [← hL, lens_len] at hi; exact hi
  have hdi : ds[i]? = some (ds[i]'hid) := List.getElem?_eq_getElem hid
  have ho := hc.el i _ _ hy hdi
  have hkl : k < (ds[i]'hid).length := by rw [← hL, lens_getD, getD_of hid] at hk; exact hk
  have hO : Only [r] W (W.setCell ⟨r, k, none⟩ (.int .u8 9)) := Only.set (p := ⟨r, k, none⟩) _
  refine ⟨⟨_, (own_cell ho (j := k) (by omega)).trans (List.getElem?_eq_getElem (by rw [u8n_len]; exact hkl))⟩, own_frozen ho k, ⟨ds.set i ((ds[i]'hid).set k 9), ?_, ?_⟩, ?_, ?_, ?_⟩
  · rw [← hL]
    unfold lens
    rw [List.map_set, List.length_set]
    apply List.ext_getElem?
    intro j
    rw [List.getElem?_set]
    by_cases hj : i = j
    · subst hj
      rw [if_pos rfl, if_pos (by simpa using hid), List.getElem?_map, hdi]; rfl
    · rw [if_neg hj]
  · refine ⟨by rw [List.length_set]; exact hc.len, ?_, fun j z d hz hd => ?_, hc.apart⟩
    · rw [List.length_set]
      exact own_kept hc.own hO (fun q hq hm => by
        simp at hm
        subst hm
        exact hc.ne ho q hq rfl)
    · rw [List.getElem?_set] at hd
      by_cases hj : i = j
      · subst hj
        rw [if_pos rfl, if_pos hid] at hd
        injection hd with hd
        subst hd
        rw [hy] at hz
        injection hz with hz
        subst hz
        exact ho.put
      · rw [if_neg hj] at hd
        exact own_kept (hc.el j z d hz hd) hO (fun q hq hm => by
          simp at hm
          subst hm
          exact hj (hc.apart i j _ z q hy hz rfl hq))
  · obtain ⟨d, hd, hx'⟩ := h.x
    exact ⟨d, hd, own_kept hx' hO (fun q hq hm => by simp at hm; subst hm; exact hx hq)⟩
  · obtain ⟨d, hd, hx'⟩ := h.y
    exact ⟨d, hd, own_kept hx' hO (fun q hq hm => by simp at hm; subst hm; exact hyy hq)⟩
  · exact Only.below h.b hO h.b.size (by have := (ho.lt r rfl).1; simp; omega)
/-- A row alone. -/
theorem put_one {base : Nat} {r m cap k : Nat} {l : List Nat} (h : Own W base (.slice (some ⟨r, 0, none⟩) m cap) l) (hk : k < l.length) : (∃ u, W.cell? ⟨r, k, none⟩ = some u) ∧ W.frozen? ⟨r, k, none⟩ = false ∧ Own (W.setCell ⟨r, k, none⟩ (.int .u8 9)) base (.slice (some ⟨r, 0, none⟩) m cap) (l.set k 9) :=
  ⟨⟨_, (own_cell h (j := k) (by omega)).trans (List.getElem?_eq_getElem (by rw [u8n_len]; exact hk))⟩, own_frozen h k, h.put⟩
end
set_option maxRecDepth 100000 in
set_option maxHeartbeats 16000000 in
theorem recovers_walk (w : World) (A0 : Option Addr) (c0 : Nat) (cs : List (List Nat)) (A1 : Option Addr) (c1 : Nat) (p : List Nat) (A2 : Option Addr) (c2 : Nat) (q : List Nat) (h0 : Kd.C (Kd.slice 5 (Kd.int .u8)) w A0 (II cs).length (II cs)) (k0 : (II cs).length ≤ c0) (h1 : RdB w A1 p) (k1 : (I p).length ≤ c1) (h2 : RdB w A2 q) (k2 : (I q).length ≤ c2)
    (b0 : Bytt cs) (b1 : Byt p) (b2 : Byt q) (hcn : cs.length * 24 ≤ 140737488351232) (hcl : ∀ c ∈ cs, c.length ≤ 140737488351232) (hpl : p.length ≤ 140737488351232) (hql : q.length ≤ 140737488351232) :
    Calls Try.prog 8 #[.slice A0 (II cs).length c0, .slice A1 (I p).length c1, .slice A2 (I q).length c2] w fun e w' => e = .returned (.bool true) ∧ Below w.heap.size w w' := by
  have hlens : ∀ c ∈ cs ++ [p, q], c.length < 4611686018427387904 := fun c hc => by
    simp at hc
    rcases hc with hc | rfl | rfl
    · have := hcl c hc; omega
    · omega
    · omega
  have hsm := rcv_small cs p q
  have AW : Hid (∀ W, Calls Try.prog 13 #[] W fun e w' => e = .returned (.bool true) ∧ Below W.heap.size W w') := Lib.hid (fun W => awake_any W)
  have CP : Hid (∀ W, Below w.heap.size w W → Calls Try.prog 10 #[.slice A0 (II cs).length c0] W fun e w' => ∃ v ys, e = .returned v ∧ Cols w' W.heap.size v ys cs ∧ Below W.heap.size W w') := Lib.hid (fun W hB => copies_big W A0 c0 cs (Kd.C_below h0 hB) k0 (by omega) (fun c hc => by have := hcl c hc; omega))
  have RP := Lib.hid (fun (W : World) (A0 : Option Addr) (c0 : Nat) (A1 : Option Addr) (c1 : Nat) (A2 : Option Addr) (c2 : Nat) h0 k0 h1 k1 h2 k2 => recover_any W A0 c0 cs A1 c1 p A2 c2 q h0 k0 h1 k1 h2 k2 b0 b1 b2)
  have RR : Hid (∀ W, Below w.heap.size w W → Calls Try.prog 21 #[.slice A0 (II cs).length c0, .slice A1 (I p).length c1, .slice A2 (I q).length c2] W (RcvPost W (rcv cs p q))) := Lib.hid (fun W hB => rrecover_any W A0 c0 cs A1 c1 p A2 c2 q (Kd.C_below h0 hB) k0 (h1.below hB) k1 (h2.below hB) k2 b0 b1 b2 (by omega) hlens)
  generalize rcv cs p q = R at *
  obtain ⟨ds, x, y, er⟩ := R
  have hdn : ds.length ≤ 30 := hsm.n
  have hdc : ∀ c ∈ ds, c.length ≤ 4096 := hsm.c
  have hxl : x.length ≤ 4096 := hsm.p
  have hyl : y.length ≤ 4096 := hsm.q
  have H0 := Lib.hid h0
  have H1 := Lib.hid h1
  have H2 := Lib.hid h2
  have HCL := Lib.hid hcl
  have HDC := Lib.hid hdc
  have HLN := Lib.hid hlens
  clear h0 h1 h2 hsm hcl hdc hlens
  go_enter Try.func8, Try.ntmps8
  go_wp2_with (fail)
  refine (AW.out _).mono ?_
  rintro e w1 ⟨rfl, hb1⟩
  have HB1 := Lib.hid hb1
  clear AW hb1
  go_wp2_with (fail)
  refine (CP.out w1 HB1.out).mono ?_
  rintro e w2 ⟨v7, ys7, rfl, hc7, hb2⟩
  have HB2 := Lib.hid (HB1.out.trans (hb2.mono HB1.out.size))
  obtain ⟨va, w3, hr3, ho3, hb3⟩ := copy_big w2 A1 c1 p (H1.out.below HB2.out) hpl
  have HB3 := Lib.hid (HB2.out.trans (hb3.mono HB2.out.size))
  obtain ⟨vb, w4, hr4, ho4, hb4⟩ := copy_big w3 A2 c2 q (H2.out.below HB3.out) hql
  have HB4 := Lib.hid (HB3.out.trans (hb4.mono HB3.out.size))
  have hc7' := (hc7.below hb3).below hb4
  have ho3' := own_belowB ho3 hb4
  obtain ⟨A7, c7, rfl, hk7, hC7⟩ := hc7'.C (by omega)
  obtain ⟨Aa, ca, rfl, hka, hRa⟩ := ho3'.form
  obtain ⟨Ab, cb, rfl, hkb, hRb⟩ := ho4.form
  have HR3 := Lib.hid hr3
  have HR4 := Lib.hid hr4
  have R4 := Lib.hid (RP.out w4 A7 c7 Aa ca Ab cb hC7 hk7 hRa hka hRb hkb)
  have HC7 := Lib.hid hC7
  have HRa := Lib.hid hRa
  have HRb := Lib.hid hRb
  have HK7 := Lib.hid hk7
  have HKa := Lib.hid hka
  have HKb := Lib.hid hkb
  clear hc7 hb2 hr3 ho3 hb3 hr4 ho4 hb4 hc7' ho3' hk7 hC7 hka hRa hkb hRb CP RP HB1 HB2 HB3
  go_wp2_with (first
    | (at_builtin; refine wpList_append_ran rfl (.tmp 26) (.tmp 27) 24 rfl _ _ rfl rfl _ w3 HR3.out ?_)
    | (at_builtin; refine wpList_append_ran rfl (.tmp 29) (.tmp 30) 24 rfl _ _ rfl rfl _ w4 HR4.out ?_))
  refine (R4.out).mono ?_
  rintro e w5 ⟨v10, v11, v12, ys, rfl, g0, g1, g2, gy, g12, gb⟩
  obtain ⟨A10, c10, rfl, k10, C10⟩ := g0.C (by simp only; omega)
  obtain ⟨A11, c11, rfl, k11, D11⟩ := g1.form
  obtain ⟨A12, c12, rfl, k12, D12⟩ := g2.form
  simp only at g0 g1 g2 C10 k10 D11 k11 D12 k12
  have HB5 := Lib.hid (HB4.out.trans (gb.mono HB4.out.size))
  have G0 := Lib.hid g0
  have G1 := Lib.hid g1
  have G2 := Lib.hid g2
  have GY := Lib.hid gy
  have G12 := Lib.hid g12
  have GB := Lib.hid gb
  have HC10 := Lib.hid C10
  have HD11 := Lib.hid D11
  have HD12 := Lib.hid D12
  have R5 := Lib.hid (RR.out w5 HB5.out)
  clear g0 g1 g2 gy g12 gb C10 D11 D12 R4 RR HR3 HR4
  go_wp2_with (fail)
  refine (R5.out).mono ?_
  rintro e w6 ⟨v14, v15, v16, ys6, rfl, g0, g1, g2, _, _, gb⟩
  obtain ⟨A14, c14, rfl, k14, C14⟩ := g0.C (by simp only; omega)
  obtain ⟨A15, c15, rfl, k15, D15⟩ := g1.form
  obtain ⟨A16, c16, rfl, k16, D16⟩ := g2.form
  simp only at C14 k14 D15 k15 D16 k16
  have HB6 := Lib.hid (HB5.out.trans (gb.mono HB5.out.size))
  have HB56 := Lib.hid gb
  have SC := Lib.hid (scols_any w6 A10 c10 ds A14 c14 (Kd.C_below HC10.out gb) k10 C14 k14 (by omega) (fun c hc => by have := HDC.out c hc; omega))
  have S1 : Hid (∀ W, Below w6.heap.size w6 W → Calls Try.prog 14 #[.slice A11 (I x).length c11, .slice A15 (I x).length c15] W fun e w' => e = .returned (.bool true) ∧ Below W.heap.size W w') := Lib.hid (fun W hB => same_big W A11 c11 x A15 c15 ((HD11.out.below HB56.out).below hB) k11 (D15.below hB) k15 (by omega))
  have S2 : Hid (∀ W, Below w6.heap.size w6 W → Calls Try.prog 14 #[.slice A12 (I y).length c12, .slice A16 (I y).length c16] W fun e w' => e = .returned (.bool true) ∧ Below W.heap.size W w') := Lib.hid (fun W hB => same_big W A12 c12 y A16 c16 ((HD12.out.below HB56.out).below hB) k12 (D16.below hB) k16 (by omega))
  clear g0 g1 g2 gb C14 k14 D15 k15 D16 k16 R5 k10 k11 k12
  go_wp2_with (fail)
  refine (SC.out).mono ?_
  rintro e w7 ⟨rfl, hb7⟩
  have HB7 := Lib.hid hb7
  clear hb7 SC
  go_wp2_with (fail)
  refine (S1.out w7 HB7.out).mono ?_
  rintro e w8 ⟨rfl, hb8⟩
  have HB8 := Lib.hid (HB7.out.trans (hb8.mono HB7.out.size))
  clear hb8 S1
  go_wp2_with (fail)
  refine (S2.out w8 HB8.out).mono ?_
  rintro e w9 ⟨rfl, hb9⟩
  have HB9 := Lib.hid (HB8.out.trans (hb9.mono HB8.out.size))
  clear hb9 S2
  have hee : ((er : Int) == er) = true := bT rfl
  go_wp2_with (fail)
  have hb59 := HB56.out.trans (HB9.out.mono HB56.out.size)
  have hb49 := GB.out.trans (hb59.mono GB.out.size)
  have HN : Hid (Nine w4 w9 (.slice A10 (II ds).length c10) ys (lens ds) (.slice A11 (I x).length c11) x.length (.slice A12 (I y).length c12) y.length) := Lib.hid ⟨⟨ds, rfl, G0.out.below hb59⟩, ⟨x, rfl, own_belowB G1.out hb59⟩, ⟨y, rfl, own_belowB G2.out hb59⟩, hb49⟩
  have HFX : Hid (∀ (j : Nat) z r, ys[j]? = some z → z.ownBlock = some r → (Value.slice A11 (I x).length c11).ownBlock ≠ some r ∧ (Value.slice A12 (I y).length c12).ownBlock ≠ some r) := Lib.hid GY.out
  have e10 : (II ds).length = (lens ds).length := by rw [II_len, lens_len]
  have e11 : (I x).length = x.length := I_len x
  have e12 : (I y).length = y.length := I_len y
  clear hb59 hb49 G0 G1 G2 GB GY HC10 HD11 HD12 HB56 HB5 HB6 HB7 HB8 HB9 hee
  rw [e10, e11, e12] at HN
  rw [e11, e12] at HFX
  have G12' : Hid (∀ b, (Value.slice A11 (I x).length c11).ownBlock = some b → (Value.slice A12 (I y).length c12).ownBlock ≠ some b) := Lib.hid G12.out
  rw [e11, e12] at G12'
  rw [e10, e11, e12]
  have HLL : Hid ((lens ds).length ≤ 30 ∧ ∀ i, (lens ds).getD i 0 ≤ 4096) := Lib.hid ⟨by rw [lens_len]; exact hdn, fun i => by
    rw [lens_getD]
    rcases Nat.lt_or_ge i ds.length with h | h
    · exact HDC.out _ (getD_mem h)
    · rw [List.getD_eq_getElem?_getD, List.getElem?_eq_none h]; simp⟩
  generalize lens ds = L at *
  generalize x.length = nx at *
  generalize y.length = ny at *
  clear e10 e11 e12 HDC hdn
  have hL30 := HLL.out.1
  go_loopg [18] (L.length) (fun q' v18 wr => ∃ i : Nat, i ≤ L.length ∧ v18 = .int .i64 (i : Int) ∧ q' = L.length - i ∧ Nine w4 wr (.slice A10 L.length c10) ys L (.slice A11 nx c11) nx (.slice A12 ny c12) ny)
  case atStart => exact ⟨0, by omega, rfl, rfl, HN.out⟩
  case round =>
    obtain ⟨i, hi, rfl, hq, hn⟩ := hrel
    clear HN
    have HQ := Lib.hid hq
    have HN := Lib.hid hn
    clear hq hn
    by_cases hlt : i < L.length
    · have hiI : (i : Int) < (L.length : Int) := by omega
      obtain ⟨ra, rfl⟩ : ∃ ra, A10 = some ⟨ra, 0, none⟩ := by
        obtain ⟨dd, hdl, hcc⟩ := HN.out.c
        obtain ⟨r, h, _, _⟩ := own_addr hcc.own (by rw [← lens_len dd, hdl]; omega)
        exact ⟨r, h⟩
      obtain ⟨Ay, cy, hy, _⟩ := HN.out.at (i := i) rfl hlt
      have HY := Lib.hid hy
      have hLi := HLL.out.2 i
      have HLI := Lib.hid (rfl : L.getD i 0 = L.getD i 0)
      generalize hli : L.getD i 0 = li at hLi HY HLI hy
      have HLJ := Lib.hid hli
      clear hli HLI hy
      go_wp2_with (fail)
      obtain ⟨wo, rfl⟩ : ∃ wo, wo = wr := ⟨_, rfl⟩
      go_loopg [19] (li) (fun q'' v19 wr => ∃ k : Nat, k ≤ li ∧ v19 = .int .i64 (k : Int) ∧ q'' = li - k ∧ Nine w4 wr (.slice (some ⟨ra, 0, none⟩) L.length c10) ys L (.slice A11 nx c11) nx (.slice A12 ny c12) ny)
      case atStart => exact ⟨0, by omega, rfl, rfl, HN.out⟩
      case round =>
        obtain ⟨k, hk, rfl, hq2, hn2⟩ := hrel
        clear HN
        have HQ2 := Lib.hid hq2
        have HN := Lib.hid hn2
        clear hq2 hn2
        have hcell : wr.cell? ⟨ra, i, none⟩ = some (.slice Ay li cy) := by
          obtain ⟨A', c', h3, h4⟩ := HN.out.at (i := i) rfl hlt
          rw [HY.out] at h3
          rw [h4]
          exact h3.symm
        by_cases hkl : k < li
        · have hkI : (k : Int) < (li : Int) := by omega
          obtain ⟨ry, rfl⟩ := HN.out.addr HY.out hlt (by rw [HLJ.out]; omega)
          obtain ⟨⟨u, hu⟩, hfz, hn3⟩ := HN.out.putC HY.out hlt (by rw [HLJ.out]; exact hkl) (HFX.out i _ ry HY.out rfl).1 (HFX.out i _ ry HY.out rfl).2
          have HN3 := Lib.hid hn3
          clear hn3 HN
          go_wp2_with (fail)
          go_roundg (li - (k + 1))
          case measure => have := HQ2.out; omega
          case rel => exact ⟨k + 1, by omega, by go_num, rfl, HN3.out⟩
        · obtain rfl : li = k := by omega
          go_wp2_with (fail)
          go_roundg (L.length - (i + 1))
          case measure => have := HQ.out; omega
          case rel => exact ⟨i + 1, by omega, by go_num, rfl, HN.out⟩
    · obtain rfl : L.length = i := by omega
      obtain ⟨dx, hdx, hx⟩ := HN.out.x
      obtain ⟨dy, hdy, hyo⟩ := HN.out.y
      have HX := Lib.hid hx
      have HYO := Lib.hid hyo
      have HBW := Lib.hid HN.out.b
      have hnx : nx ≤ 4096 := hxl
      have hny : ny ≤ 4096 := hyl
      clear HN hx hyo hlt hi HQ HFX HLL
      go_wp2_with (fail)
      obtain ⟨wo, rfl⟩ : ∃ wo, wo = wr := ⟨_, rfl⟩
      go_loopg [20] (nx) (fun q'' v20 wr => ∃ (k : Nat) (d : List Nat), k ≤ nx ∧ v20 = .int .i64 (k : Int) ∧ q'' = nx - k ∧ d.length = nx ∧ Own wr w4.heap.size (.slice A11 nx c11) d ∧ Own wr w4.heap.size (.slice A12 ny c12) dy ∧ Below w4.heap.size w4 wr)
      case atStart => exact ⟨0, dx, by omega, rfl, rfl, hdx, HX.out, HYO.out, HBW.out⟩
      case round =>
        obtain ⟨k, d, hk, rfl, hq2, hd, hx2, hy2, hb2⟩ := hrel
        clear HX HYO HBW
        have HQ2 := Lib.hid hq2
        have HX := Lib.hid hx2
        have HYO := Lib.hid hy2
        have HBW := Lib.hid hb2
        clear hq2 hx2 hy2 hb2
        by_cases hkl : k < nx
        · have hkI : (k : Int) < (nx : Int) := by omega
          obtain ⟨rx, rfl, _, _⟩ := own_addr HX.out (by omega)
          obtain ⟨⟨u, hu⟩, hfz, hn3⟩ := put_one (k := k) HX.out (by omega)
          have HX3 := Lib.hid hn3
          have HY3 : Hid (Own (wr.setCell ⟨rx, k, none⟩ (.int .u8 9)) w4.heap.size (.slice A12 ny c12) dy) := Lib.hid (own_kept HYO.out (Only.set (p := ⟨rx, k, none⟩) _) (fun b hb hm => by simp at hm; subst hm; exact G12'.out b rfl hb))
          have HB3 : Hid (Below w4.heap.size w4 (wr.setCell ⟨rx, k, none⟩ (.int .u8 9))) := Lib.hid (Only.below HBW.out (Only.set (p := ⟨rx, k, none⟩) _) HBW.out.size (by have := (HX.out.lt rx rfl).1; simp; omega))
          clear hn3 HX HYO HBW
          go_wp2_with (fail)
          go_roundg (nx - (k + 1))
          case measure => have := HQ2.out; omega
          case rel => exact ⟨k + 1, d.set k 9, by omega, by go_num, rfl, by rw [List.length_set]; exact hd, HX3.out, HY3.out, HB3.out⟩
        · obtain rfl : nx = k := by omega
          clear HX hkl hk HQ2
          go_wp2_with (fail)
          obtain ⟨wo2, rfl⟩ : ∃ wo2, wo2 = wr := ⟨_, rfl⟩
          go_loopg [21] (ny) (fun q'' v21 wr => ∃ (k : Nat) (d : List Nat), k ≤ ny ∧ v21 = .int .i64 (k : Int) ∧ q'' = ny - k ∧ d.length = ny ∧ Own wr w4.heap.size (.slice A12 ny c12) d ∧ Below w4.heap.size w4 wr)
          case atStart => exact ⟨0, dy, by omega, rfl, rfl, hdy, HYO.out, HBW.out⟩
          case round =>
            obtain ⟨k, d, hk, rfl, hq2, hd, hy2, hb2⟩ := hrel
            clear HYO HBW
            have HQ2 := Lib.hid hq2
            have HYO := Lib.hid hy2
            have HBW := Lib.hid hb2
            clear hq2 hy2 hb2
            by_cases hkl : k < ny
            · have hkI : (k : Int) < (ny : Int) := by omega
              obtain ⟨rx, rfl, _, _⟩ := own_addr HYO.out (by omega)
              obtain ⟨⟨u, hu⟩, hfz, hn3⟩ := put_one (k := k) HYO.out (by omega)
              have HX3 := Lib.hid hn3
              have HB3 : Hid (Below w4.heap.size w4 (wr.setCell ⟨rx, k, none⟩ (.int .u8 9))) := Lib.hid (Only.below HBW.out (Only.set (p := ⟨rx, k, none⟩) _) HBW.out.size (by have := (HYO.out.lt rx rfl).1; simp; omega))
              clear hn3 HYO HBW
              go_wp2_with (fail)
              go_roundg (ny - (k + 1))
              case measure => have := HQ2.out; omega
              case rel => exact ⟨k + 1, d.set k 9, by omega, by go_num, rfl, by rw [List.length_set]; exact hd, HX3.out, HB3.out⟩
            · obtain rfl : ny = k := by omega
              clear hkl hk HQ2 HYO
              have HBZ := Lib.hid (HB4.out.trans (HBW.out.mono HB4.out.size))
              have SC := Lib.hid (scols_any wr A7 c7 cs A0 c0 (Kd.C_below HC7.out HBW.out) HK7.out (Kd.C_below H0.out HBZ.out) k0 (by omega) (fun c hc => by have := HCL.out c hc; omega))
              go_wp2_with (fail)
              refine (SC.out).mono ?_
              rintro e z1 ⟨rfl, hz1⟩
              have HZ1 := Lib.hid hz1
              have S1 := Lib.hid (same_big z1 Aa ca p A1 c1 ((HRa.out.below HBW.out).below HZ1.out) HKa.out ((H1.out.below HBZ.out).below HZ1.out) k1 (by omega))
              clear hz1
              go_wp2_with (fail)
              refine (S1.out).mono ?_
              rintro e z2 ⟨rfl, hz2⟩
              have HZ2 := Lib.hid (HZ1.out.trans (hz2.mono HZ1.out.size))
              have S2 := Lib.hid (same_big z2 Ab cb q A2 c2 ((HRb.out.below HBW.out).below HZ2.out) HKb.out ((H2.out.below HBZ.out).below HZ2.out) k2 (by omega))
              clear hz2
              go_wp2_with (fail)
              refine (S2.out).mono ?_
              rintro e z3 ⟨rfl, hz3⟩
              have HZ3 := Lib.hid (HZ2.out.trans (hz3.mono HZ2.out.size))
              clear hz3
              go_wp2_with (fail)
              go_ret
              exact ⟨rfl, HBZ.out.trans (HZ3.out.mono HBZ.out.size)⟩
end Go.Proofs.Ythjodjfjeamilaa.Wd
