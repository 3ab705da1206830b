/- The statements ParityDeltas and ParitySteps, over columns of natural numbers. -/
import Derived.Test.YthjodjfjeamilaaPurE
import Derived.Test.YthjodjfjeamilaaPCx
import Derived.Test.YthjodjfjeamilaaOpn
set_option linter.unusedVariables false
set_option linter.unusedSimpArgs false
namespace Go.Proofs.Ythjodjfjeamilaa.Pur
open Go Go.RowKit Go.Proofs.YthjodjfjeamilaaW.PrintWords Go.Proofs.YthjodjfjeamilaaW.PrintLast Go.Proofs.YthjodjfjeamilaaW.PrintMore Go.Proofs.Ythjodjfjeamilaa.Bridge Go.Proofs.Ythjodjfjeamilaa.PA Go.Proofs.Ythjodjfjeamilaa.PB Go.Proofs.Ythjodjfjeamilaa.PC Go.Proofs.Ythjodjfjeamilaa.BrPA
theorem pdelta_f {p q o m : List Nat} (hp : Byt p) (hq : Byt q) (ho : Byt o) (hm : Byt m) (col : Int) : parity_Delta.f (I p) (I q) col (I o) (I m) = some (I (Wd.dlt p q col o m).1, I (Wd.dlt p q col o m).2.1, (Wd.dlt p q col o m).2.2) := by
  unfold parity_Delta.f
  rw [if_pos (by rw [okb_I hp, okb_I hq, okb_I ho, okb_I hm]; rfl), nn_I, nn_I, nn_I, nn_I]
theorem rdelta_l0 (p q o m : List Nat) (hp : Byt p) (hq : Byt q) (ho : Byt o) (hm : Byt m) (n : Nat) (hn : n ≤ 4096) (lp : p.length = n) (lq : q.length = n) (lo : o.length = n) (lm : m.length = n) (c : Nat) :
    ∀ d i, n - i = d → i ≤ n → Ev (fun k => ravelinref05_Delta.l0 k (I p) (I q) (c : Int) (I o) (I m) (n : Int) (I (tab i fun k => p.getD k 0 ^^^ (o.getD k 0 ^^^ m.getD k 0))) (I (tab i fun k => q.getD k 0 ^^^ Math.mul (Math.e c) (o.getD k 0 ^^^ m.getD k 0))) (i : Int))
      (I (tab n fun k => p.getD k 0 ^^^ (o.getD k 0 ^^^ m.getD k 0)), I (tab n fun k => q.getD k 0 ^^^ Math.mul (Math.e c) (o.getD k 0 ^^^ m.getD k 0)), (0 : Int)) := by
  intro d
  induction d with
  | zero =>
    intro i hd hi
    obtain rfl : i = n := by omega
    refine Ev.step (f := fun k => _) (fun k => by rw [ravelinref05_Delta.l0]) ?_
    exact Ev.ite_neg (by omega) (Ev.now _)
  | succ d ih =>
    intro i hd hi
    refine Ev.step (f := fun k => _) (fun k => by rw [ravelinref05_Delta.l0]) ?_
    have bp := byt_get hp i
    have bq := byt_get hq i
    have bo := byt_get ho i
    have bm := byt_get hm i
    have bx := Math.xor_lt bo bm
    have he := Math.e_lt c
    refine Ev.ite_pos (by omega) (Ev.ite_pos (by omega) (Ev.ite_pos (by rw [I_len]; omega) (Ev.ite_pos (by rw [I_len]; omega) (Ev.ite_pos (by rw [I_len]; omega) (Ev.ite_pos (by rw [I_len, tab_len]; omega) (Ev.ite_pos (by rw [I_len]; omega) ?_))))))
    have hx := rexp_ev (c : Int)
    rw [e_rnd] at hx
    refine Ev.bind hx ?_
    rw [rd_I, rd_I, rd_I, rd_I, xor_u8 _ _ bo bm, xor_u8 _ _ bp bx]
    refine Ev.bind (rmul_ev _ _ he bx) ?_
    refine Ev.ite_pos (by rw [I_len, tab_len]; omega) ?_
    rw [xor_u8 _ _ bq (Math.mul_lt he), tab_snoc i (fun k => p.getD k 0 ^^^ (o.getD k 0 ^^^ m.getD k 0)), tab_snoc i (fun k => q.getD k 0 ^^^ Math.mul (Math.e c) (o.getD k 0 ^^^ m.getD k 0)), show (i : Int) + 1 = ((i + 1 : Nat) : Int) by omega, wrap64_nat _ (by omega)]
    exact ih (i + 1) (by omega) (by omega)
theorem rdelta_ev (p q o m : List Nat) (hp : Byt p) (hq : Byt q) (ho : Byt o) (hm : Byt m) (lp : p.length ≤ 140737488351232) (lq : q.length ≤ 140737488351232) (lo : o.length ≤ 140737488351232) (lm : m.length ≤ 140737488351232) (col : Int) :
    Ev (fun k => ravelinref05_Delta.f k (I p) (I q) col (I o) (I m)) (I (Wd.dlt p q col o m).1, I (Wd.dlt p q col o m).2.1, (Wd.dlt p q col o m).2.2) := by
  have hw := width_ev [p, q, o, m] (by intro c hc; simp at hc; rcases hc with rfl | rfl | rfl | rfl <;> omega) (by simp)
  have e4 : II [p, q, o, m] = [I p, I q, I o, I m] := rfl
  have l4 : lens [p, q, o, m] = [p.length, q.length, o.length, m.length] := rfl
  rw [e4, l4] at hw
  unfold ravelinref05_Delta.f
  refine Ev.bind hw ?_
  have bad1 : ∀ x : Int, Ev (fun k => ravelinref05_Delta.j0 k (I p) (I q) col (I o) (I m) x true) (([] : List Int), ([] : List Int), (1 : Int)) := fun x => by
    refine Ev.step (f := fun k => _) (fun k => by rw [ravelinref05_Delta.j0]) ?_
    exact Ev.ite_pos rfl (Ev.now _)
  have bad2 : ∀ x : Int, Ev (fun k => ravelinref05_Delta.j1 k (I p) (I q) col (I o) (I m) x true) (([] : List Int), ([] : List Int), (2 : Int)) := fun x => by
    refine Ev.step (f := fun k => _) (fun k => by rw [ravelinref05_Delta.j1]) ?_
    exact Ev.ite_pos rfl (Ev.now _)
  rcases wid_cases [p.length, q.length, o.length, m.length] with ⟨n, l, hs, h1, h2⟩ | ⟨_, h1, h2⟩
  · rw [h1]
    have hpos := hs.pos
    refine Ev.ite_neg (by simp only; omega) ?_
    by_cases hl : l = 0
    · have hlost := hs.lost
      rw [hl] at hlost
      have hz : ∀ k ∈ [p.length, q.length, o.length, m.length], k = n := fun k hk => by
        rcases hs.all k hk with h | h
        · exfalso
          rw [h] at hk
          have := List.count_pos_iff.2 hk
          omega
        · exact h
      have e0 := hz p.length (by simp)
      have e1 := hz q.length (by simp)
      have e3 := hz o.length (by simp)
      have e5 := hz m.length (by simp)
      rw [decide_eq_false (by simp only; omega)]
      refine Ev.step (f := fun k => _) (fun k => by rw [ravelinref05_Delta.j0]) ?_
      refine Ev.ite_neg (by decide) ?_
      by_cases hc : col < 0 ∨ 30 ≤ col
      · have hD : Wd.dlt p q col o m = ([], [], 2) := by
          unfold Wd.dlt
          rw [h2, if_neg (by simp only; omega), if_pos hc]
        rw [hD]
        by_cases hc0 : col < 0
        · exact Ev.ite_pos hc0 (bad2 _)
        · refine Ev.ite_neg hc0 ?_
          rw [decide_eq_true (by omega)]
          exact bad2 _
      · have hD : Wd.dlt p q col o m = (tab p.length (fun k => p.getD k 0 ^^^ Math.mul 1 (o.getD k 0) ^^^ Math.mul 1 (m.getD k 0)), tab p.length (fun k => q.getD k 0 ^^^ Math.mul (Math.e col.toNat) (o.getD k 0) ^^^ Math.mul (Math.e col.toNat) (m.getD k 0)), 0) := by
          unfold Wd.dlt
          rw [h2, if_neg (by simp only; omega), if_neg hc]
        rw [hD]
        obtain ⟨c, rfl⟩ := Int.eq_ofNat_of_zero_le (show 0 ≤ col by omega)
        refine Ev.ite_neg (by omega) ?_
        rw [decide_eq_false (by omega)]
        refine Ev.step (f := fun k => _) (fun k => by rw [ravelinref05_Delta.j1]) ?_
        refine Ev.ite_neg (by decide) ?_
        have h := rdelta_l0 p q o m hp hq ho hm n hs.lim e0 e1 e3 e5 c n 0 (by omega) (by omega)
        rw [e0, Int.toNat_natCast]
        have t1 : tab n (fun k => p.getD k 0 ^^^ Math.mul 1 (o.getD k 0) ^^^ Math.mul 1 (m.getD k 0)) = tab n (fun k => p.getD k 0 ^^^ (o.getD k 0 ^^^ m.getD k 0)) := tab_congr fun k _ => by
          rw [Math.one_mul _ (byt_get ho k), Math.one_mul _ (byt_get hm k), Nat.xor_assoc]
        have t2 : tab n (fun k => q.getD k 0 ^^^ Math.mul (Math.e c) (o.getD k 0) ^^^ Math.mul (Math.e c) (m.getD k 0)) = tab n (fun k => q.getD k 0 ^^^ Math.mul (Math.e c) (o.getD k 0 ^^^ m.getD k 0)) := tab_congr fun k _ => by
          rw [Math.mul_xor, Nat.xor_assoc]
        rw [t1, t2]
        exact h
    · have hD : Wd.dlt p q col o m = ([], [], 1) := by
        unfold Wd.dlt
        rw [h2, if_pos (by simp only; omega)]
      rw [hD, decide_eq_true (by simp only; omega)]
      exact bad1 _
  · have hD : Wd.dlt p q col o m = ([], [], 1) := by
      unfold Wd.dlt
      rw [if_pos (.inl h2)]
    rw [hD]
    exact Ev.ite_pos (by omega) (bad1 _)
theorem dlt_len (p q o m : List Nat) (col : Int) (lp : p.length ≤ 140737488351232) : (Wd.dlt p q col o m).1.length ≤ 140737488351232 ∧ (Wd.dlt p q col o m).2.1.length ≤ 140737488351232 := by
  unfold Wd.dlt
  split
  · exact ⟨by simp, by simp⟩
  · split
    · exact ⟨by simp, by simp⟩
    · exact ⟨by simp only; rw [tab_len]; exact lp, by simp only; rw [tab_len]; exact lp⟩
theorem deltas_true (p q o m : List Nat) (hp : Byt p) (hq : Byt q) (ho : Byt o) (hm : Byt m) (lp : p.length ≤ 140737488351232) (lq : q.length ≤ 140737488351232) (lo : o.length ≤ 140737488351232) (lm : m.length ≤ 140737488351232) (col : Int) :
    Ev (fun k => ravelinlaw05_ParityDeltas.f k (I p) (I q) col (I o) (I m)) true := by
  obtain ⟨b1, b2⟩ := dlt_len p q o m col lp
  unfold ravelinlaw05_ParityDeltas.f
  rw [pdelta_f hp hq ho hm]
  simp only [Option.bind_some]
  refine Ev.bind (rdelta_ev p q o m hp hq ho hm lp lq lo lm col) ?_
  refine Ev.bind awake_ev (Ev.ite_pos rfl (Ev.bind (lsame_ev _ _ (by rw [I_len]; omega)) ?_))
  rw [decide_eq_true rfl]
  refine Ev.ite_pos rfl (Ev.bind (lsame_ev _ _ (by rw [I_len]; omega)) ?_)
  rw [decide_eq_true rfl]
  refine Ev.ite_pos rfl ?_
  rw [beq_self_eq_true]
  exact Ev.now _
theorem deltas_walk (A0 : Option Addr) (c0 : Nat) (p : List Nat) (A1 : Option Addr) (c1 : Nat) (q : List Nat) (col : Int) (A3 : Option Addr) (c3 : Nat) (o : List Nat) (A4 : Option Addr) (c4 : Nat) (m : List Nat) (w : World)
    (h0 : Kd.C (Kd.int .u8) w A0 (I p).length (I p)) (k0 : (I p).length ≤ c0) (h1 : Kd.C (Kd.int .u8) w A1 (I q).length (I q)) (k1 : (I q).length ≤ c1) (h3 : Kd.C (Kd.int .u8) w A3 (I o).length (I o)) (k3 : (I o).length ≤ c3) (h4 : Kd.C (Kd.int .u8) w A4 (I m).length (I m)) (k4 : (I m).length ≤ c4)
    (hp : Byt p) (hq : Byt q) (ho : Byt o) (hm : Byt m) (lp : p.length ≤ 140737488351232) (lq : q.length ≤ 140737488351232) (lo : o.length ≤ 140737488351232) (lm : m.length ≤ 140737488351232) :
    Calls Try.prog 5 #[.slice A0 (I p).length c0, .slice A1 (I q).length c1, .int .i64 col, .slice A3 (I o).length c3, .slice A4 (I m).length c4] w fun e w' => e = .returned (.bool true) ∧ Below w.heap.size w w' := by
  obtain ⟨k, hk⟩ := (deltas_true p q o m hp hq ho hm lp lq lo lm col).rounds
  exact ravelinlaw05_ParityDeltas.calls k A0 c0 (I p) A1 c1 (I q) col A3 c3 (I o) A4 c4 (I m) true w h0 k0 h1 k1 h3 k3 h4 k4 hk
/-! ### ParitySteps -/
theorem getD_set (cs : List (List Nat)) (i j : Nat) (d : List Nat) (hi : i < cs.length) : (cs.set i d).getD j [] = if j = i then d else cs.getD j [] := by
  rw [List.getD_eq_getElem?_getD, List.getElem?_set]
  by_cases h : i = j
  · subst h
    rw [if_pos rfl, if_pos hi, if_pos rfl]; rfl
  · rw [if_neg h, if_neg (Ne.symm h), List.getD_eq_getElem?_getD]
theorem ws_set (g : Nat → Nat) (cs : List (List Nat)) (i : Nat) (d : List Nat) (k : Nat) (hi : i < cs.length) : ∀ n, ws g (cs.set i d) n k = if i < n then ws g cs n k ^^^ Math.mul (g i) ((cs.getD i []).getD k 0) ^^^ Math.mul (g i) (d.getD k 0) else ws g cs n k
  | 0 => by rw [if_neg (by omega)]; rfl
  | n + 1 => by
    show ws g (cs.set i d) n k ^^^ Math.mul (g n) (((cs.set i d).getD n []).getD k 0) = _
    rw [ws_set g cs i d k hi n, getD_set cs i n d hi]
    by_cases h : n = i
    · subst h
      rw [if_neg (by omega), if_pos rfl, if_pos (by omega)]
      show _ = ws g cs n k ^^^ Math.mul (g n) ((cs.getD n []).getD k 0) ^^^ Math.mul (g n) ((cs.getD n []).getD k 0) ^^^ _
      rw [Nat.xor_assoc (ws g cs n k), Nat.xor_self, Nat.xor_zero]
    · rw [if_neg h]
      by_cases h2 : i < n
      · rw [if_pos h2, if_pos (by omega)]
        show _ = ws g cs n k ^^^ Math.mul (g n) ((cs.getD n []).getD k 0) ^^^ _ ^^^ _
        generalize ws g cs n k = a
        generalize Math.mul (g n) ((cs.getD n []).getD k 0) = b
        generalize Math.mul (g i) ((cs.getD i []).getD k 0) = c
        generalize Math.mul (g i) (d.getD k 0) = e
        rw [Math.xor_right_comm (a ^^^ c) e b, Math.xor_right_comm a c b]
      · rw [if_neg h2, if_neg (by omega)]
        rfl
/-- The columns, i of which have become what they are now. -/
def mix (cs ds : List (List Nat)) (i : Nat) : List (List Nat) := ds.take i ++ cs.drop i
theorem mix_len {cs ds : List (List Nat)} (h : cs.length = ds.length) (i : Nat) : (mix cs ds i).length = cs.length := by
  unfold mix; simp; omega
theorem mix_succ {cs ds : List (List Nat)} (h : cs.length = ds.length) {i : Nat} (hi : i < cs.length) : mix cs ds (i + 1) = (mix cs ds i).set i (ds.getD i []) := by
  unfold mix
  rw [List.set_append_right _ _ (by rw [List.length_take]; omega), List.length_take, show i - min i ds.length = 0 by omega, List.drop_eq_getElem_cons hi, List.set_cons_zero, List.getD_eq_getElem?_getD, List.getElem?_eq_getElem (show i < ds.length by omega)]
  have e : ds.take (i + 1) = ds.take i ++ [ds[i]'(by omega)] := by rw [List.take_add_one, List.getElem?_eq_getElem (show i < ds.length by omega)]; rfl
  rw [e, List.append_assoc]
  rfl
theorem mix_at {cs ds : List (List Nat)} (h : cs.length = ds.length) {i : Nat} (hi : i < cs.length) : (mix cs ds i).getD i [] = cs.getD i [] := by
  unfold mix
  rw [List.getD_eq_getElem?_getD, List.getD_eq_getElem?_getD, List.getElem?_append_right (by rw [List.length_take]; omega), List.length_take, List.getElem?_drop]
  congr 2
  omega
theorem mix_mem {cs ds : List (List Nat)} {p : List Nat → Prop} (hc : ∀ c ∈ cs, p c) (hd : ∀ c ∈ ds, p c) (i : Nat) : ∀ c ∈ mix cs ds i, p c := by
  intro c hm
  unfold mix at hm
  rcases List.mem_append.1 hm with h | h
  · exact hd c (List.mem_of_mem_take h)
  · exact hc c (List.mem_of_mem_drop h)
theorem dlt_good (p q o m : List Nat) (n c : Nat) (h1 : 1 ≤ n) (h2 : n ≤ 4096) (lp : p.length = n) (lq : q.length = n) (lo : o.length = n) (lm : m.length = n) (hc : c < 30) :
    Wd.dlt p q (c : Int) o m = (tab n (fun k => p.getD k 0 ^^^ Math.mul 1 (o.getD k 0) ^^^ Math.mul 1 (m.getD k 0)), tab n (fun k => q.getD k 0 ^^^ Math.mul (Math.e c) (o.getD k 0) ^^^ Math.mul (Math.e c) (m.getD k 0)), 0) := by
  have hs : Snd [p.length, q.length, o.length, m.length] n 0 := by
    rw [lp, lq, lo, lm]
    refine ⟨h1, h2, by simp, fun k hk => ?_, ?_⟩
    · simp at hk; exact .inr hk
    · symm
      rw [List.count_eq_zero]
      simp
      omega
  unfold Wd.dlt
  rw [wid_snd hs, if_neg (by simp only; omega), if_neg (by omega), Int.toNat_natCast, lp]
theorem steps_l0 (cs ds : List (List Nat)) (hcs : Bytt cs) (hds : Bytt ds) (n : Nat) (hg : Good cs n) (hd : Good ds n) (hl : cs.length = ds.length) :
    ∀ d i, cs.length - i = d → i ≤ cs.length → Ev (fun k => ravelinlaw05_ParitySteps.l0 k (II cs) (II ds) (I (tab n (wP (mix cs ds i)))) (I (tab n (wQ (mix cs ds i)))) (I (tab n (wP ds))) (I (tab n (wQ ds))) (i : Int)) true := by
  have hn := hg.snd.lim
  have h30 := hg.hi
  intro d
  induction d with
  | zero =>
    intro i hd' hi
    obtain rfl : i = cs.length := by omega
    have e : mix cs ds cs.length = ds := by unfold mix; rw [List.drop_length, List.append_nil, List.take_of_length_le (by omega)]
    rw [e]
    refine Ev.step (f := fun k => _) (fun k => by rw [ravelinlaw05_ParitySteps.l0]) ?_
    refine Ev.ite_neg (by rw [II_len]; omega) (Ev.bind (lsame_ev _ _ (by rw [I_len, tab_len]; omega)) ?_)
    rw [decide_eq_true rfl]
    refine Ev.ite_pos rfl (Ev.bind (lsame_ev _ _ (by rw [I_len, tab_len]; omega)) ?_)
    rw [decide_eq_true rfl]
    exact Ev.now _
  | succ d ih =>
    intro i hd' hi
    refine Ev.step (f := fun k => _) (fun k => by rw [ravelinlaw05_ParitySteps.l0]) ?_
    refine Ev.ite_pos (by rw [II_len]; omega) (Ev.ite_pos (by omega) (Ev.ite_pos (by rw [II_len]; omega) ?_))
    rw [rd_II, rd_II]
    have hmb : Bytt (mix cs ds i) := mix_mem hcs hds i
    have hPb : Byt (tab n (wP (mix cs ds i))) := tab_byt fun k _ => wP_lt hmb k
    have hQb : Byt (tab n (wQ (mix cs ds i))) := tab_byt fun k _ => wQ_lt hmb k
    have lo := hg.len _ (getD_mem (cs := cs) (i := i) (by omega))
    have lm := hd.len _ (getD_mem (cs := ds) (i := i) (by omega))
    rw [pdelta_f hPb hQb (bytt_get hcs i) (bytt_get hds i), dlt_good _ _ _ _ n i hg.snd.pos hn (tab_len _ _) (tab_len _ _) lo lm (by omega)]
    simp only [Option.bind_some]
    refine Ev.ite_pos (by simp) ?_
    have hml := mix_len hl i
    have hws : ∀ (g : Nat → Nat) (k : Nat), ws g (mix cs ds (i + 1)) (mix cs ds (i + 1)).length k = ws g (mix cs ds i) (mix cs ds i).length k ^^^ Math.mul (g i) ((cs.getD i []).getD k 0) ^^^ Math.mul (g i) ((ds.getD i []).getD k 0) := by
      intro g k
      rw [mix_succ hl (by omega), List.length_set, ws_set g _ i _ k (by omega), if_pos (by omega), mix_at hl (by omega)]
    have t1 : tab n (fun k => (tab n (wP (mix cs ds i))).getD k 0 ^^^ Math.mul 1 ((cs.getD i []).getD k 0) ^^^ Math.mul 1 ((ds.getD i []).getD k 0)) = tab n (wP (mix cs ds (i + 1))) := tab_congr fun k hk => by
      rw [tab_get hk]
      exact (hws one k).symm
    have t2 : tab n (fun k => (tab n (wQ (mix cs ds i))).getD k 0 ^^^ Math.mul (Math.e i) ((cs.getD i []).getD k 0) ^^^ Math.mul (Math.e i) ((ds.getD i []).getD k 0)) = tab n (wQ (mix cs ds (i + 1))) := tab_congr fun k hk => by
      rw [tab_get hk]
      exact (hws Math.e k).symm
    rw [t1, t2, show (i : Int) + 1 = ((i + 1 : Nat) : Int) by omega, wrap64_nat _ (by omega)]
    exact ih (i + 1) (by omega) (by omega)
theorem steps_true (cs ds : List (List Nat)) (hcs : Bytt cs) (hds : Bytt ds) : Ev (fun k => ravelinlaw05_ParitySteps.f k (II cs) (II ds)) true := by
  unfold ravelinlaw05_ParitySteps.f
  refine Ev.bind awake_ev (Ev.ite_pos rfl ?_)
  have jtrue : ∀ (p q x y : List Int) (e : Int), (e = 0 → 0 < p.length) → Ev (fun k => ravelinlaw05_ParitySteps.j0 k (II cs) (II ds) p q e x y true) true := fun p q x y e he => by
    refine Ev.step (f := fun k => _) (fun k => by rw [ravelinlaw05_ParitySteps.j0]) ?_
    refine Ev.ite_pos rfl ?_
    by_cases h0 : e = 0
    · refine Ev.ite_pos h0 ?_
      rw [decide_eq_true (by have := he h0; omega)]
      exact Ev.now _
    · exact Ev.ite_neg h0 (Ev.now _)
  by_cases hg : ∃ n, Good cs n
  · obtain ⟨n, hg⟩ := hg
    have hpos := hg.snd.pos
    refine Ev.bind (encode_ok cs n hcs hg) ?_
    have hpl : (I (tab n (wP cs))).length = n := by rw [I_len, tab_len]
    by_cases hd : ∃ m, Good ds m
    · obtain ⟨m, hd⟩ := hd
      have hql : (I (tab m (wP ds))).length = m := by rw [I_len, tab_len]
      refine Ev.bind (encode_ok ds m hds hd) ?_
      refine Ev.ite_pos rfl (Ev.ite_pos rfl ?_)
      by_cases hl : cs.length = ds.length
      · refine Ev.ite_pos (by rw [II_len, II_len]; omega) ?_
        simp only [hpl, hql]
        by_cases hnm : n = m
        · subst hnm
          have hb : ((n : Int) != (n : Int)) = false := bne_self_eq_false _
          rw [hb]
          refine Ev.step (f := fun k => _) (fun k => by rw [ravelinlaw05_ParitySteps.j0]) ?_
          refine Ev.ite_neg (by decide) ?_
          have h := steps_l0 cs ds hcs hds n hg hd hl cs.length 0 (by omega) (by omega)
          have e : mix cs ds 0 = cs := by unfold mix; simp
          rw [e] at h
          exact h
        · have hb : ((n : Int) != (m : Int)) = true := by rw [bne_iff_ne]; omega
          rw [hb]
          exact jtrue _ _ _ _ _ (fun _ => by rw [hpl]; omega)
      · exact Ev.ite_neg (by rw [II_len, II_len]; omega) (jtrue _ _ _ _ _ (fun _ => by rw [hpl]; omega))
    · refine Ev.bind (encode_bad ds (fun m h => hd ⟨m, h⟩)) ?_
      exact Ev.ite_pos rfl (Ev.ite_neg (by decide) (jtrue _ _ _ _ _ (fun _ => by rw [hpl]; omega)))
  · refine Ev.bind (encode_bad cs (fun m h => hg ⟨m, h⟩)) ?_
    by_cases hd : ∃ m, Good ds m
    · obtain ⟨m, hd⟩ := hd
      refine Ev.bind (encode_ok ds m hds hd) ?_
      exact Ev.ite_neg (by decide) (jtrue _ _ _ _ _ (fun h => absurd h (by decide)))
    · refine Ev.bind (encode_bad ds (fun m h => hd ⟨m, h⟩)) ?_
      exact Ev.ite_neg (by decide) (jtrue _ _ _ _ _ (fun h => absurd h (by decide)))
theorem steps_walk (A0 : Option Addr) (c0 : Nat) (cs : List (List Nat)) (A1 : Option Addr) (c1 : Nat) (ds : List (List Nat)) (w : World) (hr0 : Kd.C (Kd.slice 5 (Kd.int .u8)) w A0 (II cs).length (II cs)) (hc0 : (II cs).length ≤ c0) (hr1 : Kd.C (Kd.slice 5 (Kd.int .u8)) w A1 (II ds).length (II ds)) (hc1 : (II ds).length ≤ c1) (hcs : Bytt cs) (hds : Bytt ds) :
    Calls Try.prog 6 #[.slice A0 (II cs).length c0, .slice A1 (II ds).length c1] w fun e w' => e = .returned (.bool true) ∧ Below w.heap.size w w' := by
  obtain ⟨k, hk⟩ := (steps_true cs ds hcs hds).rounds
  exact ravelinlaw05_ParitySteps.calls k A0 c0 (II cs) A1 c1 (II ds) true w hr0 hc0 hr1 hc1 hk
end Go.Proofs.Ythjodjfjeamilaa.Pur
