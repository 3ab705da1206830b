/- ParityLocates, walked. -/
import Derived.Test.YthjodjfjeamilaaLcR
import Derived.Test.YthjodjfjeamilaaOpn
set_option linter.unusedVariables false
set_option linter.unusedSimpArgs false
namespace Go.Proofs.Ythjodjfjeamilaa.Wd
open Go Go.RowKit Go.Proofs.YthjodjfjeamilaaW.PrintWords Go.Proofs.YthjodjfjeamilaaW.PrintLast Go.Proofs.YthjodjfjeamilaaW.PrintMore Go.Proofs.Ythjodjfjeamilaa.Bridge Go.Proofs.Ythjodjfjeamilaa.PA Go.Proofs.Ythjodjfjeamilaa.PB Go.Proofs.Ythjodjfjeamilaa.BrPA Go.Proofs.Ythjodjfjeamilaa.Pur
/-- What Locate answers of any columns. -/
def LocA (cs : List (List Nat)) (p q : List Nat) (r : Int × Int) : Prop := if (rcvW cs p q).1 = 0 ∨ 0 < (rcvW cs p q).2 then r = (0, 1) else Pur.Loc (rcvW cs p q).1 cs p q r
theorem LocA.uniq {cs : List (List Nat)} {p q : List Nat} {r s : Int × Int} (h : LocA cs p q r) (k : LocA cs p q s) : r = s := by
  unfold LocA at h k
  by_cases hb : (rcvW cs p q).1 = 0 ∨ 0 < (rcvW cs p q).2
  · rw [if_pos hb] at h k
    rw [h, k]
  · rw [if_neg hb] at h k
    exact Pur.Loc.uniq h k
theorem LocPost.imp {w : World} {R S : Int × Int → Prop} {e : Ending} {w' : World} (h : LocPost w R e w') (hi : ∀ r, R r → S r) : LocPost w S e w' := by
  obtain ⟨r, he, hr, hb⟩ := h
  exact ⟨r, he, hi r hr, hb⟩
theorem LocA.bad {cs : List (List Nat)} {p q : List Nat} (h : (rcvW cs p q).1 = 0 ∨ 0 < (rcvW cs p q).2) (r : Int × Int) (hr : r = (0, 1)) : LocA cs p q r := by unfold LocA; rw [if_pos h]; exact hr
theorem LocA.good {cs : List (List Nat)} {p q : List Nat} {n : Nat} (h : rcvW cs p q = (n, 0)) (hn : 1 ≤ n) (r : Int × Int) (hr : Pur.Loc n cs p q r) : LocA cs p q r := by
  unfold LocA
  rw [h, if_neg (by simp only; omega)]
  exact hr
theorem snd_zero {cs : List (List Nat)} {p q : List Nat} {n : Nat} (hs : Snd (lens (cs ++ [p, q])) n 0) : (∀ c ∈ cs, c.length = n) ∧ p.length = n ∧ q.length = n := by
  have hz : ∀ c ∈ cs ++ [p, q], c.length = n := fun c hc => by
    have hm : c.length ∈ lens (cs ++ [p, q]) := List.mem_map.2 ⟨c, hc, rfl⟩
    rcases hs.all _ hm with h | h
    · exfalso
      rw [h] at hm
      have := List.count_pos_iff.2 hm
      have := hs.lost
      omega
    · exact h
  exact ⟨fun c hc => hz c (List.mem_append_left _ hc), hz p (by simp), hz q (by simp)⟩
theorem locate_any (w : World) (A0 : Option Addr) (c0 : Nat) (cs : List (List Nat)) (A1 : Option Addr) (c1 : Nat) (p : List Nat) (A2 : Option Addr) (c2 : Nat) (q : List Nat) (h0 : Kd.C (Kd.slice 5 (Kd.int .u8)) w A0 (II cs).length (II cs)) (k0 : (II cs).length ≤ c0) (h1 : RdB w A1 p) (k1 : (I p).length ≤ c1) (h2 : RdB w A2 q) (k2 : (I q).length ≤ c2)
    (b0 : Bytt cs) (b1 : Byt p) (b2 : Byt q) :
    Calls Try.prog 18 #[.slice A0 (II cs).length c0, .slice A1 (I p).length c1, .slice A2 (I q).length c2] w (LocPost w (LocA cs p q)) := by
  have hW := width_rcv cs p q
  by_cases hz : (rcvW cs p q).1 = 0
  · exact (locate_bad w A0 c0 cs A1 c1 p A2 c2 q h0 k0 h1 k1 h2 k2 _ _ hW (.inl hz)).mono fun e w' h => h.imp (LocA.bad (.inl hz))
  · by_cases hl : 0 < (rcvW cs p q).2
    · exact (locate_bad w A0 c0 cs A1 c1 p A2 c2 q h0 k0 h1 k1 h2 k2 _ _ hW (.inr ⟨hz, hl⟩)).mono fun e w' h => h.imp (LocA.bad (.inr hl))
    · have hw : ¬ (cs.length < 1 ∨ 30 < cs.length) := fun h => hz (by unfold rcvW; rw [if_pos h])
      have e : rcvW cs p q = wid (lens (cs ++ [p, q])) := by unfold rcvW; rw [if_neg hw]
      rcases wid_cases (lens (cs ++ [p, q])) with ⟨n, l, hs, _, h2'⟩ | ⟨_, _, h2'⟩
      · have e2 := e.trans h2'
        rw [e2] at hl
        obtain rfl : l = 0 := by simpa using hl
        obtain ⟨z0, z1, z2⟩ := snd_zero hs
        exact (locate_good w A0 c0 cs A1 c1 p A2 c2 q h0 k0 h1 k1 h2 k2 b0 b1 b2 n 0 (by omega) (by omega) hs.pos hs.lim z0 z1 z2 rfl).mono fun e w' h => h.imp (LocA.good e2 hs.pos)
      · exact absurd (by rw [e]; exact h2') hz
theorem rlocate_any (w : World) (A0 : Option Addr) (c0 : Nat) (cs : List (List Nat)) (A1 : Option Addr) (c1 : Nat) (p : List Nat) (A2 : Option Addr) (c2 : Nat) (q : List Nat) (h0 : Kd.C (Kd.slice 5 (Kd.int .u8)) w A0 (II cs).length (II cs)) (k0 : (II cs).length ≤ c0) (h1 : RdB w A1 p) (k1 : (I p).length ≤ c1) (h2 : RdB w A2 q) (k2 : (I q).length ≤ c2)
    (b0 : Bytt cs) (b1 : Byt p) (b2 : Byt q) (hn : cs.length + 2 < 5864062014805) (hcl : ∀ c ∈ cs ++ [p, q], c.length < 4611686018427387904) :
    Calls Try.prog 19 #[.slice A0 (II cs).length c0, .slice A1 (I p).length c1, .slice A2 (I q).length c2] w (LocPost w (LocA cs p q)) := by
  have bad := fun (n l : Nat) (b : Bool) hb hW hbad => rlocate_bad w A0 c0 cs A1 c1 p A2 c2 q h0 k0 h1 k1 h2 k2 hn hcl n l b hb hW hbad
  by_cases hw : cs.length < 1 ∨ 30 < cs.length
  · have e : rcvW cs p q = (0, 0) := by unfold rcvW; rw [if_pos hw]
    exact (bad _ _ false (by rw [eq_comm, decide_eq_false_iff_not]; omega) rfl (.inl rfl)).mono fun _ w' h => h.imp (LocA.bad (.inl (by rw [e])))
  · have e : rcvW cs p q = wid (lens (cs ++ [p, q])) := by unfold rcvW; rw [if_neg hw]
    have hb : true = decide (1 ≤ cs.length ∧ cs.length ≤ 30) := by rw [eq_comm, decide_eq_true_iff]; omega
    rcases wid_cases (lens (cs ++ [p, q])) with ⟨n, l, hs, h1', h2'⟩ | ⟨_, h1', h2'⟩
    · have hp := hs.pos
      have e2 := e.trans h2'
      by_cases hl : 0 < l
      · exact (bad n l true hb h1' (.inr (.inr ⟨rfl, by omega, hl⟩))).mono fun _ w' h => h.imp (LocA.bad (.inr (by rw [e2]; exact hl)))
      · obtain rfl : l = 0 := by omega
        obtain ⟨z0, z1, z2⟩ := snd_zero hs
        exact (rlocate_good w A0 c0 cs A1 c1 p A2 c2 q h0 k0 h1 k1 h2 k2 b0 b1 b2 n 0 (by omega) (by omega) hs.pos hs.lim z0 z1 z2 rfl).mono fun _ w' h => h.imp (LocA.good e2 hs.pos)
    · exact (bad _ _ true hb (Prod.ext_iff.2 ⟨h1', rfl⟩) (.inr (.inl ⟨rfl, rfl⟩))).mono fun _ w' h => h.imp (LocA.bad (.inl (by rw [e]; exact h2')))
theorem lsame_any (w : World) (A0 : Option Addr) (c0 : Nat) (l : List Nat) (A1 : Option Addr) (c1 : Nat) (m : List Nat) (h0 : RdB w A0 l) (k0 : (I l).length ≤ c0) (h1 : RdB w A1 m) (k1 : (I m).length ≤ c1) (hl : l.length ≤ 4096) (b : Bool) (hb : b = decide (l = m)) :
    Calls Try.prog 14 #[.slice A0 (I l).length c0, .slice A1 (I m).length c1] w fun e w' => e = .returned (.bool b) ∧ Below w.heap.size w w' := by
  subst hb
  obtain ⟨k, hk⟩ := (lsame_ev (I l) (I m) (by rw [I_len]; omega)).rounds
  rw [I_eq] at hk
  refine (ravelinlaw05_same.calls k A0 c0 _ A1 c1 _ _ w h0 k0 h1 k1 hk).mono ?_
  rintro e w' ⟨he, hd⟩
  exact ⟨he, hd.below⟩
set_option maxRecDepth 100000 in
set_option maxHeartbeats 16000000 in
theorem locates_walk (w : World) (A0 : Option Addr) (c0 : Nat) (cs : List (List Nat)) (A1 : Option Addr) (c1 : Nat) (p : List Nat) (A2 : Option Addr) (c2 : Nat) (q : List Nat) (h0 : Kd.C (Kd.slice 5 (Kd.int .u8)) w A0 (II cs).length (II cs)) (k0 : (II cs).length ≤ c0) (h1 : RdB w A1 p) (k1 : (I p).length ≤ c1) (h2 : RdB w A2 q) (k2 : (I q).length ≤ c2) (i : Int) (A4 : Option Addr) (c4 : Nat) (o : List Nat) (h4 : RdB w A4 o) (k4 : (I o).length ≤ c4)
    (b0 : Bytt cs) (b1 : Byt p) (b2 : Byt q) (b4 : Byt o) (hi : (Lit.int .u8 i).wf = true) (hcn : cs.length * 24 ≤ 140737488351232) (hcl : ∀ c ∈ cs, c.length ≤ 140737488351232) (hpl : p.length ≤ 140737488351232) (hql : q.length ≤ 140737488351232) (hol : o.length ≤ 140737488351232) :
    Calls Try.prog 7 #[.slice A0 (II cs).length c0, .slice A1 (I p).length c1, .slice A2 (I q).length c2, .int .u8 i, .slice A4 (I o).length c4] w fun e w' => e = .returned (.bool true) ∧ Below w.heap.size w w' := by
  have hlens : ∀ c ∈ cs ++ [p, q], c.length < 4611686018427387904 := fun c hc => by
    simp at hc
    rcases hc with hc | rfl | rfl
    · have := hcl c hc; omega
    · omega
    · omega
  obtain ⟨a, rfl, ha⟩ : ∃ a : Nat, i = (a : Int) ∧ a ≤ 255 := ⟨i.toNat, by have := wf8 hi; omega, by have := wf8 hi; omega⟩
  have LP := Lib.hid (locate_any w A0 c0 cs A1 c1 p A2 c2 q h0 k0 h1 k1 h2 k2 b0 b1 b2)
  have LR : Hid (∀ W, Below w.heap.size w W → Calls Try.prog 19 #[.slice A0 (II cs).length c0, .slice A1 (I p).length c1, .slice A2 (I q).length c2] W (LocPost W (LocA cs p q))) := Lib.hid (fun W hB => rlocate_any W A0 c0 cs A1 c1 p A2 c2 q (Kd.C_below h0 hB) k0 (h1.below hB) k1 (h2.below hB) k2 b0 b1 b2 (by omega) hlens)
  have AW : Hid (∀ W, Calls Try.prog 13 #[] W fun e w' => e = .returned (.bool true) ∧ Below W.heap.size W w') := Lib.hid (fun W => awake_any W)
  have H0 := Lib.hid h0
  have H4 := Lib.hid h4
  clear h0 h1 h2 h4 hlens hcl hpl hql hi
  have e63 : (II cs).length ≤ 5864062014634 := by rw [II_len]; omega
  have eo63 : (I o).length ≤ 140737488351232 := by rw [I_len]; omega
  go_enter Try.func7, Try.ntmps7
  go_wp2_with (fail)
  refine (LP.out).mono ?_
  rintro e w1 ⟨⟨r1, r2⟩, rfl, hr, hb1⟩
  have HR := Lib.hid hr
  have HB1 := Lib.hid hb1
  have R1 := Lib.hid (LR.out w1 hb1)
  clear hr hb1 LP LR
  go_wp2_with (fail)
  refine (R1.out).mono ?_
  rintro e w2 ⟨s, rfl, hs, hb2⟩
  obtain rfl : s = (r1, r2) := LocA.uniq hs HR.out
  have HB2 := Lib.hid (HB1.out.trans (hb2.mono HB1.out.size))
  clear hs hb2 R1 HR HB1
  have x1 : ((r1 : Int) == r1) = true := bT rfl
  have x2 : ((r2 : Int) == r2) = true := bT rfl
  go_wp2_with (fail)
  refine (AW.out _).mono ?_
  rintro e w3 ⟨rfl, hb3⟩
  have HB3 := Lib.hid (HB2.out.trans (hb3.mono HB2.out.size))
  clear hb3 HB2 AW
  by_cases hg : ∃ n, Pur.Good cs n
  · obtain ⟨n, hg⟩ := hg
    have hn1 := hg.snd.pos
    have hn4 := hg.snd.lim
    have hl1 := hg.lo
    have hl2 := hg.hi
    have HG := Lib.hid hg
    have EN := Lib.hid (encode_any w3 A0 c0 cs _ _ _ (Kd.C_below H0.out HB3.out) k0 (encode_ok cs n b0 hg))
    clear hg
    go_wp2_with (fail)
    refine (EN.out).mono ?_
    rintro e w4 ⟨v15, v16, rfl, ho15, ho16, hb4⟩
    clear x1 x2
    have HB4 := Lib.hid (HB3.out.trans (hb4.mono HB3.out.size))
    obtain ⟨A15, c15, rfl, k15, r15⟩ := ho15.form
    obtain ⟨A16, c16, rfl, k16, r16⟩ := ho16.form
    have HP := Lib.hid r15
    have HQ := Lib.hid r16
    clear ho15 ho16 hb4 r15 r16 EN HB3
    have lp : (I (tab n (wP cs))).length = n := by rw [I_len, tab_len]
    have lq : (I (tab n (wQ cs))).length = n := by rw [I_len, tab_len]
    by_cases hon : o.length = n
    · have lo : (I o).length = n := by rw [I_len, hon]
      have HON := Lib.hid hon
      clear hon
      have x3 : (((I o).length : Int) == ((I (tab n (wP cs))).length : Int)) = true := bT (by rw [lo, lp])
      clear lo lp lq
      obtain ⟨kk, hkk⟩ : ∃ kk : Nat, kk = a % (cs.length + 2) := ⟨_, rfl⟩
      have hrem : Int.tmod (a : Int) (((II cs).length : Int) + 2) = (kk : Int) := by
        rw [II_len, hkk]
        rw [show ((cs.length : Int) + 2) = ((cs.length + 2 : Nat) : Int) by omega, Int.ofNat_tmod]
      have hkl : kk < cs.length + 2 := by rw [hkk]; exact Nat.mod_lt _ (by omega)
      have x4 : ¬ (((II cs).length : Int) + 2 = 0) := by omega
      clear hkk
      have CP := Lib.hid (copies_any w4 A0 c0 cs (Kd.C_below H0.out HB4.out) k0 hl2 (fun c hc => by rw [HG.out.len c hc]; exact hn4))
      go_wp2_with (fail)
      refine (CP.out).mono ?_
      rintro e w5 ⟨v19, ys, rfl, hc19, hb5⟩
      clear hrem x3 x4 CP
      obtain ⟨A19, c19, hev, _, _⟩ := own_form hc19.own
      subst hev
      obtain ⟨ra, rfl, _, _⟩ := own_addr hc19.own (by omega)
      have hb6 := balloc w5 (.cells #[] 5)
      have hb46 := hb5.trans (hb6.mono hb5.size)
      have HB46 := Lib.hid hb46
      have HB6 := Lib.hid (HB4.out.trans (hb46.mono HB4.out.size))
      have HC6 := Lib.hid (hc19.below hb6)
      have HP6 := Lib.hid (HP.out.below hb46)
      have HQ6 := Lib.hid (HQ.out.below hb46)
      have HP4 := HP
      have HQ4 := HQ
      clear hc19 hb5 hb6 hb46 HP HQ
      rcases Nat.lt_trichotomy kk cs.length with hk | hk | hk
      · have hkI : (kk : Int) < ((II cs).length : Int) := by rw [II_len]; omega
        have hkN : kk < (II cs).length := by rw [II_len]; omega
        have hkc : (kk : Int) < (cs.length : Int) := by omega
        have hy : ys[kk]? = some (ys[kk]'(by rw [HC6.out.len]; exact hk)) := List.getElem?_eq_getElem _
        have hcy : (w5.alloc (.cells #[] 5)).cell? ⟨ra, kk, none⟩ = some (ys[kk]'(by rw [HC6.out.len]; exact hk)) := (own_cell HC6.out.own (j := kk) (by omega)).trans hy
        have hoy := HC6.out.el kk _ (cs.getD kk []) hy (by rw [List.getElem?_eq_getElem hk, getD_of hk])
        generalize ys[kk]'(by rw [HC6.out.len]; exact hk) = yk at hy hcy hoy
        generalize hck : cs.getD kk [] = ck at hoy
        obtain ⟨Ay, cy, rfl, ky, ryy⟩ := hoy.form
        have HCK := Lib.hid hck
        clear hck
        obtain ⟨vo, w7, hr7, ho7, hb7⟩ := copy_run (w5.alloc (.cells #[] 5)) A4 c4 o (H4.out.below HB6.out) (by have := HON.out; omega)
        have hc7 := HC6.out.below hb7
        have hfr : ∀ (j : Nat) z b, ys[j]? = some z → z.ownBlock = some b → vo.ownBlock ≠ some b := fun j z b hz hb h => by
          have h5 := (HC6.out.lt j z b hz hb).2
          have h6 := (ho7.lt b h).1
          omega
        have hc8 := hc7.set (y := vo) (c := o) (g := kk) (own_lower ho7 (Nat.le_trans HB46.out.size (Nat.le_refl _))) hk hfr
        have hO : Only [ra] w7 (w7.setCell ⟨ra, kk, none⟩ vo) := Only.set (p := ⟨ra, kk, none⟩) vo
        have hlo := (HC6.out.own.lt ra rfl).1
        have hb48 : Below w4.heap.size w4 (w7.setCell ⟨ra, kk, none⟩ vo) := Only.below (HB46.out.trans (hb7.mono HB46.out.size)) hO (HB46.out.trans (hb7.mono HB46.out.size)).size (by simp; exact hlo)
        have hy8 : RdB (w7.setCell ⟨ra, kk, none⟩ vo) Ay (ck) := by
          have h5 := own_belowB hoy hb7
          have h6 : Own (w7.setCell ⟨ra, kk, none⟩ vo) w4.heap.size (.slice Ay (I (ck)).length cy) (ck) := own_kept h5 hO (fun b hb hm => by
            simp at hm
            subst hm
            exact hc7.ne h5 b rfl hb.symm)
          obtain ⟨A', c', he, _, h8⟩ := h6.form
          injection he with h9
          subst h9
          exact h8
        rw [show (w5.alloc (.cells #[] 5)).heap.size = w5.heap.size + 1 by simp] at hr7
        have HR7 := Lib.hid hr7
        have HY8 := Lib.hid hy8
        have HB48 := Lib.hid hb48
        have hfz := own_frozen hc7.own kk
        obtain ⟨u, hu⟩ : ∃ u, w7.cell? ⟨ra, kk, none⟩ = some u := ⟨_, (own_cell hc7.own (j := kk) (by omega)).trans hy⟩
        have HP8 := Lib.hid (HP6.out)
        obtain ⟨Ao, co, rfl, _, _⟩ := ho7.form
        obtain ⟨A8, c8, he8, k8, C8⟩ := hc8.C (by rw [List.length_set]; omega)
        injection he8 with e81 e82 e83
        subst e81 e83
        have hs8 : (II (cs.set kk o)).length = cs.length := by rw [II_len, List.length_set]
        have hcl : ck.length = n := by rw [← HCK.out]; exact HG.out.len _ (getD_mem hk)
        have LO : Hid (Calls Try.prog 18 #[.slice (some ⟨ra, 0, none⟩) cs.length c19, .slice A15 (I (tab n (wP cs))).length c15, .slice A16 (I (tab n (wQ cs))).length c16] (w7.setCell ⟨ra, kk, none⟩ (.slice Ao (I o).length co)) (LocPost (w7.setCell ⟨ra, kk, none⟩ (.slice Ao (I o).length co)) (Pur.Loc n (cs.set kk o) (tab n (wP cs)) (tab n (wQ cs))))) := Lib.hid (by
          have h := locate_good _ (some ⟨ra, 0, none⟩) c19 (cs.set kk o) A15 c15 (tab n (wP cs)) A16 c16 (tab n (wQ cs)) C8 k8 (HP4.out.below hb48) k15 (HQ4.out.below hb48) k16 (set_bytt b0 b4) (tab_byt fun k _ => wP_lt b0 k) (tab_byt fun k _ => wQ_lt b0 k) n 0 (by rw [List.length_set]; exact hl1) (by rw [List.length_set]; exact hl2) hn1 hn4 (fun c hc => by
            rcases List.mem_or_eq_of_mem_set hc with h | rfl
            · exact HG.out.len c h
            · exact HON.out) (tab_len _ _) (tab_len _ _) rfl
          rw [hs8] at h
          exact h)
        have HKY := Lib.hid ky
        clear hy hoy ryy hr7 ho7 hb7 hc7 hfr hc8 hO hlo hb48 hy8 C8 k8 e82 hs8 HC6 ky
        go_wp2_with (first
          | (at_builtin; refine wpList_append_ran rfl (.tmp 88) (.tmp 89) 24 rfl _ _ rfl rfl _ w7 HR7.out ?_))
        refine (LO.out).mono ?_
        rintro e w9 ⟨r, rfl, hL, hb9⟩
        have HB9 := Lib.hid hb9
        have HB09 := Lib.hid (HB4.out.trans ((HB48.out.trans (hb9.mono HB48.out.size)).mono HB4.out.size))
        by_cases heq : ck = o
        · have hcs : cs.set kk o = cs := by
            rw [← heq, ← HCK.out, getD_of hk]
            exact List.set_getElem_self hk
          rw [hcs] at hL
          obtain rfl := loc_same b0 hL
          have SA := Lib.hid (lsame_any w9 Ay cy (ck) A4 c4 o (HY8.out.below HB9.out) HKY.out (H4.out.below HB09.out) k4 (by rw [hcl]; exact hn4) true (by rw [eq_comm, decide_eq_true_iff]; exact heq))
          clear heq hcs hL hb9
          go_wp2_with (fail)
          refine (SA.out).mono ?_
          rintro e wz ⟨rfl, hbz⟩
          have HBZ := Lib.hid (HB09.out.trans (hbz.mono HB09.out.size))
          clear hbz SA
          go_wp2_with (fail)
          go_ret
          exact ⟨rfl, HBZ.out⟩
        · obtain rfl := loc_col b0 b4 (by rw [HCK.out]; exact hcl) HON.out hk hl2 (by rw [HCK.out]; exact heq) hL
          have SA := Lib.hid (lsame_any w9 Ay cy (ck) A4 c4 o (HY8.out.below HB9.out) HKY.out (H4.out.below HB09.out) k4 (by rw [hcl]; exact hn4) false (by rw [eq_comm, decide_eq_false_iff_not]; exact heq))
          clear heq hL hb9
          have hkkb : ((kk : Int) == (kk : Int)) = true := bT rfl
          go_wp2_with (fail)
          refine (SA.out).mono ?_
          rintro e wz ⟨rfl, hbz⟩
          have HBZ := Lib.hid (HB09.out.trans (hbz.mono HB09.out.size))
          clear hbz SA
          go_wp2_with (fail)
          go_ret
          exact ⟨rfl, HBZ.out⟩
      · have hkI : ¬ (kk : Int) < ((II cs).length : Int) := by rw [II_len]; omega
        have hkN : ¬ kk < (II cs).length := by rw [II_len]; omega
        have hkE : ((kk : Int) == ((II cs).length : Int)) = true := bT (by rw [II_len]; omega)
        have HK := Lib.hid hk
        clear hk
        obtain ⟨vo, w7, hr7, ho7, hb7⟩ := copy_run (w5.alloc (.cells #[] 5)) A4 c4 o (H4.out.below HB6.out) (by have := HON.out; omega)
        rw [show (w5.alloc (.cells #[] 5)).heap.size = w5.heap.size + 1 by simp] at hr7
        have HR7 := Lib.hid hr7
        have HB7 := Lib.hid hb7
        have HB07 := Lib.hid (HB6.out.trans (hb7.mono HB6.out.size))
        obtain ⟨Ao, co, rfl, ko, ro⟩ := ho7.form
        have RO := Lib.hid ro
        have HKO := Lib.hid ko
        have hc7 := HC6.out.below hb7
        obtain ⟨A8, c8, he8, k8, C8⟩ := hc7.C (by omega)
        injection he8 with e81 e82 e83
        subst e81 e83
        have hs8 : (II cs).length = cs.length := II_len cs
        have LO : Hid (Calls Try.prog 18 #[.slice (some ⟨ra, 0, none⟩) cs.length c19, .slice Ao (I o).length co, .slice A16 (I (tab n (wQ cs))).length c16] w7 (LocPost w7 (Pur.Loc n cs (o) (tab n (wQ cs))))) := Lib.hid (by
          have h := locate_good w7 (some ⟨ra, 0, none⟩) c19 cs Ao co o A16 c16 (tab n (wQ cs)) C8 k8 RO.out HKO.out (HQ6.out.below HB7.out) k16 b0 b4 (tab_byt fun k _ => wQ_lt b0 k) n 0 hl1 hl2 hn1 hn4 (fun c hc => HG.out.len c hc) HON.out (tab_len _ _) rfl
          rw [hs8] at h
          exact h)
        clear hr7 ho7 hb7 ko ro hc7 k8 C8 e82 hs8
        go_wp2_with (first
          | (at_builtin; refine wpList_append_ran rfl (.tmp 98) (.tmp 99) 24 rfl _ _ rfl rfl _ w7 HR7.out ?_))
        refine (LO.out).mono ?_
        rintro e w9 ⟨r, rfl, hL, hb9⟩
        have HB9 := Lib.hid hb9
        have HB09 := Lib.hid (HB07.out.trans (hb9.mono HB07.out.size))
        by_cases heq : tab n (wP cs) = o
        · have hL2 : Pur.Loc n cs (tab n (wP cs)) (tab n (wQ cs)) r := by rw [heq]; exact hL
          obtain rfl := loc_same b0 hL2
          have SA := Lib.hid (lsame_any w9 A15 c15 (tab n (wP cs)) A4 c4 o ((HP6.out.below HB7.out).below HB9.out) k15 (H4.out.below HB09.out) k4 (by rw [tab_len]; exact hn4) true (by rw [eq_comm, decide_eq_true_iff]; exact heq))
          clear heq hL hL2 hb9
          go_wp2_with (fail)
          refine (SA.out).mono ?_
          rintro e wz ⟨rfl, hbz⟩
          have HBZ := Lib.hid (HB09.out.trans (hbz.mono HB09.out.size))
          clear hbz SA
          go_wp2_with (fail)
          go_ret
          exact ⟨rfl, HBZ.out⟩
        · obtain rfl := loc_p b0 b4 HON.out heq hL
          have SA := Lib.hid (lsame_any w9 A15 c15 (tab n (wP cs)) A4 c4 o ((HP6.out.below HB7.out).below HB9.out) k15 (H4.out.below HB09.out) k4 (by rw [tab_len]; exact hn4) false (by rw [eq_comm, decide_eq_false_iff_not]; exact heq))
          clear heq hL hb9
          have hkkb : ((cs.length : Int) == (kk : Int)) = true := bT (by have := HK.out; omega)
          go_wp2_with (fail)
          refine (SA.out).mono ?_
          rintro e wz ⟨rfl, hbz⟩
          have HBZ := Lib.hid (HB09.out.trans (hbz.mono HB09.out.size))
          clear hbz SA
          go_wp2_with (fail)
          go_ret
          exact ⟨rfl, HBZ.out⟩
      · have hkI : ¬ (kk : Int) < ((II cs).length : Int) := by rw [II_len]; omega
        have hkN : ¬ kk < (II cs).length := by rw [II_len]; omega
        have hkE : ((kk : Int) == ((II cs).length : Int)) = false := bF (by rw [II_len]; omega)
        have HK := Lib.hid hk
        clear hk
        obtain ⟨vo, w7, hr7, ho7, hb7⟩ := copy_run (w5.alloc (.cells #[] 5)) A4 c4 o (H4.out.below HB6.out) (by have := HON.out; omega)
        rw [show (w5.alloc (.cells #[] 5)).heap.size = w5.heap.size + 1 by simp] at hr7
        have HR7 := Lib.hid hr7
        have HB7 := Lib.hid hb7
        have HB07 := Lib.hid (HB6.out.trans (hb7.mono HB6.out.size))
        obtain ⟨Ao, co, rfl, ko, ro⟩ := ho7.form
        have RO := Lib.hid ro
        have HKO := Lib.hid ko
        have hc7 := HC6.out.below hb7
        obtain ⟨A8, c8, he8, k8, C8⟩ := hc7.C (by omega)
        injection he8 with e81 e82 e83
        subst e81 e83
        have hs8 : (II cs).length = cs.length := II_len cs
        have LO : Hid (Calls Try.prog 18 #[.slice (some ⟨ra, 0, none⟩) cs.length c19, .slice A15 (I (tab n (wP cs))).length c15, .slice Ao (I o).length co] w7 (LocPost w7 (Pur.Loc n cs (tab n (wP cs)) (o)))) := Lib.hid (by
          have h := locate_good w7 (some ⟨ra, 0, none⟩) c19 cs A15 c15 (tab n (wP cs)) Ao co o C8 k8 (HP6.out.below HB7.out) k15 RO.out HKO.out b0 (tab_byt fun k _ => wP_lt b0 k) b4 n 0 hl1 hl2 hn1 hn4 (fun c hc => HG.out.len c hc) (tab_len _ _) HON.out rfl
          rw [hs8] at h
          exact h)
        clear hr7 ho7 hb7 ko ro hc7 k8 C8 e82 hs8
        go_wp2_with (first
          | (at_builtin; refine wpList_append_ran rfl (.tmp 74) (.tmp 75) 24 rfl _ _ rfl rfl _ w7 HR7.out ?_))
        refine (LO.out).mono ?_
        rintro e w9 ⟨r, rfl, hL, hb9⟩
        have HB9 := Lib.hid hb9
        have HB09 := Lib.hid (HB07.out.trans (hb9.mono HB07.out.size))
        by_cases heq : tab n (wQ cs) = o
        · have hL2 : Pur.Loc n cs (tab n (wP cs)) (tab n (wQ cs)) r := by rw [heq]; exact hL
          obtain rfl := loc_same b0 hL2
          have SA := Lib.hid (lsame_any w9 A16 c16 (tab n (wQ cs)) A4 c4 o ((HQ6.out.below HB7.out).below HB9.out) k16 (H4.out.below HB09.out) k4 (by rw [tab_len]; exact hn4) true (by rw [eq_comm, decide_eq_true_iff]; exact heq))
          clear heq hL hL2 hb9
          go_wp2_with (fail)
          refine (SA.out).mono ?_
          rintro e wz ⟨rfl, hbz⟩
          have HBZ := Lib.hid (HB09.out.trans (hbz.mono HB09.out.size))
          clear hbz SA
          go_wp2_with (fail)
          go_ret
          exact ⟨rfl, HBZ.out⟩
        · obtain rfl := loc_q b0 b4 HON.out heq hL
          have SA := Lib.hid (lsame_any w9 A16 c16 (tab n (wQ cs)) A4 c4 o ((HQ6.out.below HB7.out).below HB9.out) k16 (H4.out.below HB09.out) k4 (by rw [tab_len]; exact hn4) false (by rw [eq_comm, decide_eq_false_iff_not]; exact heq))
          clear heq hL hb9
          have hkkb : (((cs.length : Int) + 1) == (kk : Int)) = true := bT (by have := HK.out; omega)
          go_wp2_with (fail)
          refine (SA.out).mono ?_
          rintro e wz ⟨rfl, hbz⟩
          have HBZ := Lib.hid (HB09.out.trans (hbz.mono HB09.out.size))
          clear hbz SA
          go_wp2_with (fail)
          go_ret
          exact ⟨rfl, HBZ.out⟩
    · have x3 : (((I o).length : Int) == ((I (tab n (wP cs))).length : Int)) = false := bF (by rw [I_len, lp]; omega)
      clear hon
      go_wp2_with (fail)
      go_ret
      exact ⟨rfl, HB4.out⟩
  · have EN := Lib.hid (encode_any w3 A0 c0 cs [] [] 1 (Kd.C_below H0.out HB3.out) k0 (encode_bad cs fun m h => hg ⟨m, h⟩))
    clear hg
    go_wp2_with (fail)
    refine (EN.out).mono ?_
    rintro e w4 ⟨v15, v16, rfl, ho15, ho16, hb4⟩
    have HB4 := Lib.hid (HB3.out.trans (hb4.mono HB3.out.size))
    obtain ⟨A15, c15, rfl, k15, r15⟩ := ho15.form
    obtain ⟨A16, c16, rfl, k16, r16⟩ := ho16.form
    clear ho15 ho16 hb4 r15 r16 EN HB3
    go_wp2_with (fail)
    go_ret
    exact ⟨rfl, HB4.out⟩
end Go.Proofs.Ythjodjfjeamilaa.Wd
