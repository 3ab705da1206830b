/- slices.Grow and slices.Concat of columns, and width, walked. -/
import Derived.Test.YthjodjfjeamilaaWord
import Derived.Test.YthjodjfjeamilaaPurB
set_option linter.unusedVariables false
set_option linter.unusedSimpArgs false
namespace Go.Proofs.Ythjodjfjeamilaa.Wd
open Go Go.RowKit Go.Proofs.YthjodjfjeamilaaW.PrintWords Go.Proofs.YthjodjfjeamilaaW.PrintLast Go.Proofs.YthjodjfjeamilaaW.PrintMore Go.Proofs.Ythjodjfjeamilaa.PA
/-- A column in memory, by its slice value. -/
def Elem (w : World) (y : Value) (c : List Int) : Prop := ∃ A' c', y = .slice A' c.length c' ∧ c.length ≤ c' ∧ Kd.C (Kd.int .u8) w A' c.length c
theorem Elem.below {w w' : World} {y : Value} {c : List Int} (h : Elem w y c) (hb : Below w.heap.size w w') : Elem w' y c := by
  obtain ⟨A', c', h1, h2, h3⟩ := h
  exact ⟨A', c', h1, h2, Kd.C_below h3 hb⟩
/-- Columns in memory: their slice values ys. -/
structure Cl (w : World) (A : Option Addr) (n : Nat) (ys : List Value) (cs : List (List Int)) : Prop where
  ylen : ys.length = n
  clen : cs.length = n
  max : n ≤ 9223372036854775807
  at_ : 0 < n → ∃ a, A = some a ∧ ∀ (j : Nat) y, ys[j]? = some y → w.cell? (a.add j) = some y
  el : ∀ (j : Nat) c y, cs[j]? = some c → ys[j]? = some y → Elem w y c
theorem cl_of {w : World} {A : Option Addr} {n : Nat} {cs : List (List Int)} (h : Kd.C (Kd.slice 5 (Kd.int .u8)) w A n cs) : ∃ ys, Cl w A n ys cs := by
  obtain ⟨h1, h2, h3⟩ := h
  rcases Nat.eq_zero_or_pos n with h0 | h0
  · subst h0
    obtain rfl : cs = [] := List.eq_nil_of_length_eq_zero h1
    exact ⟨[], rfl, rfl, by decide, fun h => absurd h (by decide), fun j c y hc => by simp at hc⟩
  · obtain ⟨a, hA, hx⟩ := h3 h0
    have key : ∀ j : Nat, ∃ y : Value, ∀ p, cs[j]? = some p → Elem w y p ∧ w.cell? (a.add j) = some y := by
      intro j
      cases hj : cs[j]? with
      | none => exact ⟨undef, fun p hp => by cases hp⟩
      | some p =>
        obtain ⟨c, hl, hk, hc⟩ := hx j p hj
        obtain ⟨A', c', rfl, hle, hr⟩ := hk
        refine ⟨.slice A' p.length c', fun q hq => ?_⟩
        injection hq with hq
        subst hq
        refine ⟨⟨A', c', rfl, hle, hr⟩, ?_⟩
        have := hc 0 _ rfl
        rw [show j * (Kd.slice 5 (Kd.int .u8)).sz + 0 = j from by show j * 1 + 0 = j; omega] at this
        exact this
    obtain ⟨F, hF⟩ := Classical.skolem.1 key
    refine ⟨(List.range n).map F, by simp, h1, h2, fun _ => ⟨a, hA, fun j y hy => ?_⟩, fun j c y hc hy => ?_⟩
    · have hj : j < n := by have := (List.getElem?_eq_some_iff.1 hy).1; simpa using this
      rw [List.getElem?_map, List.getElem?_range hj] at hy
      injection hy with hy
      subst hy
      exact (hF j _ (List.getElem?_eq_getElem (by omega))).2
    · have hj : j < n := by have := (List.getElem?_eq_some_iff.1 hy).1; simpa using this
      rw [List.getElem?_map, List.getElem?_range hj] at hy
      injection hy with hy
      subst hy
      exact (hF j _ hc).1
theorem Cl.below {w w' : World} {A : Option Addr} {n : Nat} {ys : List Value} {cs : List (List Int)} (h : Cl w A n ys cs) (hb : Below w.heap.size w w') : Cl w' A n ys cs :=
  ⟨h.ylen, h.clen, h.max, fun h0 => by
    obtain ⟨a, hA, hx⟩ := h.at_ h0
    refine ⟨a, hA, fun j y hy => ?_⟩
    have hc := hx j y hy
    have hlt : (a.add j).block < w.heap.size := World.block_lt_of_cell? w _ hc
    rw [hb.cell hlt]; exact hc, fun j c y h1 h2 => (h.el j c y h1 h2).below hb⟩
theorem Cl.one {w : World} {A : Option Addr} {n : Nat} {ys : List Value} {cs : List (List Int)} (h : Cl w A n ys cs) : ∀ y ∈ ys, y.oneCell' = true := by
  intro y hy
  obtain ⟨j, hj, rfl⟩ := List.getElem_of_mem hy
  obtain ⟨A', c', h1, _⟩ := h.el j (cs[j]'(by rw [h.clen, ← h.ylen]; exact hj)) _ (List.getElem?_eq_getElem _) (List.getElem?_eq_getElem _)
  rw [h1]; rfl
theorem wpList_append_ran2 {P : Program} {w : World} {ops : Array Oper} {rest : List Oper} {o : Oper} {a : Act} {Q : Exit → Act → World → Prop} (hgd : o.guard = none) (s x : Operand) (t u : TypeId)
    (ho : o.op = .call { callee := .builtin .append, args := #[s, x], argTypes := #[t, u] }) (v z : Value) (hs : a.eval s = v) (hx : a.eval x = z) (v' : Value) (w' : World)
    (hrun : (Builtin.append_ #[t, u] o.type #[v, z]).run P w = .ok v' w') (h : wpList P ops Q rest (a.put o.dst v') w') : wpList P ops Q (o :: rest) a w := by
  refine wpList_plain hgd fun K hK => ?_
  unfold Oper.wp
  simp [execOp, ho, resolve, invoke, builtin, hs, hx, hrun, Result.andThen]
  exact hK _ _ h
theorem info24 : (Try.prog.info? 24).map (fun i => (i.zero, i.size, i.bytes)) = some (some (.slice none 0 0), 1, 24) := by kernel_rfl
theorem own_cut {w : World} {base : Nat} {e : TypeId} {A : Option Addr} {n m cap : Nat} {xs : List Value} (h : w.ownsRow base e 1 (.slice A m cap) n xs) : w.ownsRow base e 1 (.slice A 0 cap) 0 [] := by
  refine ⟨rfl, ?_⟩
  rcases h.2 with ⟨hv, h0⟩ | ⟨g, c, cur, hv, hb, hh, h1, h2, h3, h4⟩
  · injection hv with a b c
    subst a c
    exact .inl ⟨rfl, rfl⟩
  · injection hv with a b c
    subst a c
    exact .inr ⟨g, _, cur, rfl, hb, hh, by omega, h2, h3, by simp⟩
set_option maxRecDepth 100000 in
set_option maxHeartbeats 8000000 in
theorem grow_any (n : Nat) (hn : n ≤ 100) (w : World) :
    Calls Try.prog 46 #[.slice none 0 0, .int .i64 (n : Int)] w fun e w' => ∃ v, e = .returned v ∧ w'.ownsRow w.heap.size 24 1 v 0 [] ∧ Below w.heap.size w w' := by
  obtain ⟨i0, hi0, hz0, hz1, hz2⟩ := info_parts info24
  obtain ⟨v', w', hr, ho, hg, hb⟩ := run_append_zeros (P := Try.prog) w w.heap.size 22 3 22 24 i0 (.slice none 0 0) 1 24 Try.underlying22 Try.underlying3 hi0 hz0 hz1 hz2 rfl (by decide) (by decide) (.slice none 0 0) 0 [] (World.ownsRow_nil _ _ _ _) .i64 n (by
    intro u hu
    simp [Builtin.zeroCells] at hu
    obtain ⟨i, _, h⟩ := hu
    have e : (Value.slice none 0 0).cells.size = 1 := rfl
    rw [e, Nat.mod_one] at h
    rw [← h]; rfl) (by omega) (Nat.le_refl _)
  obtain ⟨A, cap, rfl, hnc, hcm⟩ := own_form ho
  have HR := Lib.hid hr
  have HO := Lib.hid (own_cut ho)
  have HB := Lib.hid ((Below.refl w.heap.size w).grown hg (Nat.le_refl _) (fun q hq => by simp [Value.ownBlock] at hq))
  clear hr hi0 hz0 hz1 hz2 hg hb
  by_cases h0 : n = 0
  · subst h0
    clear HR HO HB ho
    go_enter Try.func46, Try.ntmps46
    go_wp2_with (fail)
    go_ret
    exact ⟨_, rfl, World.ownsRow_nil _ _ _ _, Below.refl _ _⟩
  · obtain ⟨r, rfl, _, _⟩ := own_addr ho (by omega)
    clear ho
    have h1 : (0 : Int) < (n : Int) := by omega
    go_enter Try.func46, Try.ntmps46
    go_wp2_with (first | (at_builtin; refine wpList_append_ran2 rfl (.tmp 20) (.tmp 21) 22 3 rfl _ _ rfl rfl _ _ HR.out ?_))
    go_ret
    exact ⟨_, rfl, HO.out, HB.out⟩
theorem run_append_none_c {P : Program} {w : World} (base : Nat) (t ty e : TypeId) (i : TypeInfo) (size c : Nat) (ht : P.underlying t = some (.slice e)) (hi : P.info? e = some i)
    (v : Value) (n : Nat) (xs : List Value) (hown : w.ownsRow base e size v n xs) :
    (Builtin.append_ #[t, t] ty #[v, .slice none 0 c]).run P w = .ok v w := by
  rcases hown.2 with ⟨rfl, rfl⟩ | ⟨g, cap, cur, rfl, _, _, hnc, _⟩
  · simp [Builtin.append_, run_underlying ht, sizeOf, typeInfo, hi, Builtin.lenOf, Builtin.firstCells]
  · simp [Builtin.append_, run_underlying ht, sizeOf, typeInfo, hi, Builtin.lenOf, Builtin.firstCells, hnc, storeCells]
theorem cat22 (w : World) (base : Nat) (v : Value) (n : Nat) (xs : List Value) (A : Option Addr) (m c : Nat) (ys : List Value) (cs : List (List Int)) (hown : w.ownsRow base 24 1 v n xs) (hu : Cl w A m ys cs) (hl : n + m ≤ 100) (hbase : base ≤ w.heap.size) :
    ∃ v' w', (Builtin.append_ #[22, 22] 22 #[v, .slice A m c]).run Try.prog w = .ok v' w' ∧ w'.ownsRow base 24 1 v' (n + m) (xs ++ ys) ∧ w.grownBy w' v.ownBlock := by
  obtain ⟨i0, hi0, hz0, hz1, hz2⟩ := info_parts info24
  rcases Nat.eq_zero_or_pos m with h0 | h0
  · subst h0
    obtain rfl : ys = [] := List.eq_nil_of_length_eq_zero hu.ylen
    cases A with
    | none =>
      exact ⟨v, w, run_append_none_c base 22 22 24 i0 1 c Try.underlying22 hi0 v n xs hown, by simpa using hown, ⟨rfl, rfl, rfl, Nat.le_refl _, fun _ _ _ => rfl⟩⟩
    | some a =>
      obtain ⟨v', w', hr, h3, h4, _, _⟩ := run_append_own_at (P := Try.prog) w base 22 22 24 i0 (.slice none 0 0) 1 24 Try.underlying22 hi0 hz0 hz1 hz2 rfl (by decide) v n xs hown a 0 c [] rfl (fun j u hj => by simp at hj) (fun u hu => by cases hu) (by unfold maxLen; omega) (by omega) hbase
      exact ⟨v', w', hr, h3, h4⟩
  · obtain ⟨a, rfl, hx⟩ := hu.at_ h0
    obtain ⟨v', w', hr, h3, h4, _, _⟩ := run_append_own_at (P := Try.prog) w base 22 22 24 i0 (.slice none 0 0) 1 24 Try.underlying22 hi0 hz0 hz1 hz2 rfl (by decide) v n xs hown a m c ys (by rw [hu.ylen, Nat.mul_one]) hx hu.one (by unfold maxLen; omega) (by omega) hbase
    exact ⟨v', w', hr, h3, h4⟩
theorem Cl.addr {w : World} {A : Option Addr} {n : Nat} {ys : List Value} {cs : List (List Int)} (h : Cl w A n ys cs) {j : Nat} {y : Value} (hy : ys[j]? = some y) : ∃ a, A = some a ∧ w.cell? (a.add j) = some y := by
  have hj : j < n := by have := (List.getElem?_eq_some_iff.1 hy).1; rw [h.ylen] at this; exact this
  obtain ⟨a, hA, hx⟩ := h.at_ (by omega)
  exact ⟨a, hA, hx j y hy⟩
set_option maxRecDepth 100000 in
set_option maxHeartbeats 8000000 in
theorem concat_any (w : World) (g : Nat) (A0 : Option Addr) (c0 n0 : Nat) (ys0 : List Value) (l0 : List (List Int)) (A1 : Option Addr) (c1 n1 : Nat) (ys1 : List Value) (l1 : List (List Int)) (h0 : Cl w A0 n0 ys0 l0) (h1 : Cl w A1 n1 ys1 l1)
    (hg : w.heap[g]? = some (.cells #[.slice A0 n0 c0, .slice A1 n1 c1] 22 (0, 0))) (hl : n0 + n1 ≤ 90) :
    Calls Try.prog 39 #[.slice (some ⟨g, 0, none⟩) 2 2] w fun e w' => ∃ v, e = .returned v ∧ w'.ownsRow w.heap.size 24 1 v (n0 + n1) (ys0 ++ ys1) ∧ Below w.heap.size w w' := by
  have H0 := Lib.hid h0
  have H1 := Lib.hid h1
  have HG := Lib.hid hg
  have g0 : w.cell? ⟨g, 0, none⟩ = some (.slice A0 n0 c0) := by rw [cell_of_heap hg]; rfl
  have g1 : w.cell? ⟨g, 1, none⟩ = some (.slice A1 n1 c1) := by rw [cell_of_heap hg]; rfl
  clear h0 h1 hg
  go_enter Try.func39, Try.ntmps39
  go_wp2_with (fail)
  go_loopg [3, 11] (2) (fun q v3 v11 wr => ∃ i sz : Nat, ((i = 0 ∧ sz = 0) ∨ (i = 1 ∧ n0 = sz) ∨ (i = 2 ∧ n0 + n1 = sz)) ∧ v3 = .int .i64 (sz : Int) ∧ v11 = .int .i64 (i : Int) ∧ q = 2 - i ∧ w = wr)
  case atStart => exact ⟨0, 0, .inl ⟨rfl, rfl⟩, rfl, rfl, rfl, rfl⟩
  case round =>
    obtain ⟨i, sz, hi, rfl, rfl, hq, rfl⟩ := hrel
    have HQ := Lib.hid hq
    clear hq
    rcases hi with ⟨rfl, rfl⟩ | ⟨rfl, rfl⟩ | ⟨rfl, rfl⟩
    · go_wp2_with (fail)
      go_roundg (1)
      case measure => have := HQ.out; omega
      case rel => exact ⟨1, n0, .inr (.inl ⟨rfl, rfl⟩), by go_num, by go_num, rfl, rfl⟩
    · go_wp2_with (fail)
      go_roundg (0)
      case measure => have := HQ.out; omega
      case rel => exact ⟨2, n0 + n1, .inr (.inr ⟨rfl, rfl⟩), by go_num, by go_num, rfl, rfl⟩
    · clear g0 g1
      have C := Lib.hid (grow_any (n0 + n1) (by omega) w)
      go_wp2_with (fail)
      first
        | refine (C.out).mono ?_
        | (rw [show ((n0 : Int) + (n1 : Int)) = ((n0 + n1 : Nat) : Int) by omega]; refine (C.out).mono ?_)
      rintro e w2 ⟨v2, rfl, ho2, hb2⟩
      have HO2 := Lib.hid ho2
      have HB2 := Lib.hid hb2
      clear ho2 hb2 C
      go_wp2_with (fail)
      go_loopg [6, 27] (2) (fun q v6 v27 wz => ∃ (j m : Nat) (zs : List Value), ((j = 0 ∧ 0 = m ∧ [] = zs) ∨ (j = 1 ∧ n0 = m ∧ ys0 = zs) ∨ (j = 2 ∧ n0 + n1 = m ∧ ys0 ++ ys1 = zs)) ∧ v27 = .int .i64 (j : Int) ∧ q = 2 - j ∧ wz.ownsRow w.heap.size 24 1 v6 m zs ∧ Below w.heap.size w wz)
      case atStart => exact ⟨0, 0, [], .inl ⟨rfl, rfl, rfl⟩, rfl, rfl, HO2.out, HB2.out⟩
      case round =>
        obtain ⟨j, m, zs, hj, rfl, hq, ho, hb⟩ := hrel
        clear HO2 HB2 HQ
        have HQ := Lib.hid hq
        have HO := Lib.hid ho
        have HB := Lib.hid hb
        have hgz := (hb.block _ (lt_of_heap HG.out)).trans HG.out
        have g0 : wr.cell? ⟨g, 0, none⟩ = some (.slice A0 n0 c0) := by rw [cell_of_heap hgz]; rfl
        have g1 : wr.cell? ⟨g, 1, none⟩ = some (.slice A1 n1 c1) := by rw [cell_of_heap hgz]; rfl
        clear hq ho hb hgz
        rcases hj with ⟨rfl, rfl, rfl⟩ | ⟨rfl, rfl, rfl⟩ | ⟨rfl, rfl, rfl⟩
        · obtain ⟨v', w', hr, ho', hg'⟩ := cat22 wr w.heap.size u6 0 [] A0 n0 c0 ys0 l0 HO.out (H0.out.below HB.out) (by omega) HB.out.size
          have HR := Lib.hid hr
          have HO' := Lib.hid ho'
          have HB' := Lib.hid (Only.below HB.out (Only.grown hg') HB.out.size (fun x hx => (HO.out.lt x (by simpa using hx)).1))
          clear hr ho' hg'
          go_wp2_with (first | (at_builtin; refine wpList_append_ran rfl (.tmp 31) (.tmp 32) 22 rfl _ _ rfl rfl _ _ HR.out ?_))
          go_roundg (1)
          case measure => have := HQ.out; omega
          case rel => exact ⟨1, n0, ys0, .inr (.inl ⟨rfl, rfl, rfl⟩), by go_num, rfl, by have h := HO'.out; rw [Nat.zero_add, List.nil_append] at h; exact h, HB'.out⟩
        · obtain ⟨v', w', hr, ho', hg'⟩ := cat22 wr w.heap.size u6 n0 ys0 A1 n1 c1 ys1 l1 HO.out (H1.out.below HB.out) (by omega) HB.out.size
          have HR := Lib.hid hr
          have HO' := Lib.hid ho'
          have HB' := Lib.hid (Only.below HB.out (Only.grown hg') HB.out.size (fun x hx => (HO.out.lt x (by simpa using hx)).1))
          clear hr ho' hg'
          go_wp2_with (first | (at_builtin; refine wpList_append_ran rfl (.tmp 31) (.tmp 32) 22 rfl _ _ rfl rfl _ _ HR.out ?_))
          go_roundg (0)
          case measure => have := HQ.out; omega
          case rel => exact ⟨2, _, _, .inr (.inr ⟨rfl, rfl, rfl⟩), by go_num, rfl, HO'.out, HB'.out⟩
        · clear g0 g1
          go_wp2_with (fail)
          go_ret
          exact ⟨_, rfl, HO.out, HB.out⟩
def lens2 (cs : List (List Int)) : List Nat := cs.map List.length
set_option maxRecDepth 100000 in
set_option maxHeartbeats 8000000 in
theorem width_ok (w : World) (A0 : Option Addr) (c0 n0 : Nat) (ys0 : List Value) (l0 : List (List Int)) (A1 : Option Addr) (c1 n1 : Nat) (ys1 : List Value) (l1 : List (List Int)) (h0 : Cl w A0 n0 ys0 l0) (h1 : Cl w A1 n1 ys1 l1)
    (hl1 : 1 ≤ n0) (hl2 : n0 ≤ 30) (hl3 : n1 ≤ 2) :
    Calls Try.prog 22 #[.slice A0 n0 c0, .slice A1 n1 c1] w fun e w' => e = .returned (.tuple #[.int .i64 ((Pur.wid (lens2 (l0 ++ l1))).1 : Int), .int .i64 ((Pur.wid (lens2 (l0 ++ l1))).2 : Int)]) ∧ Below w.heap.size w w' := by
  have B1 := balloc w (.cells #[.slice A0 n0 c0, .slice A1 n1 c1] 22)
  have C := Lib.hid (concat_any (w.alloc (.cells #[.slice A0 n0 c0, .slice A1 n1 c1] 22)) w.heap.size A0 c0 n0 ys0 l0 A1 c1 n1 ys1 l1 (h0.below B1) (h1.below B1) (heap_alloc_new w _) (by omega))
  have H0 := Lib.hid h0
  have H1 := Lib.hid h1
  have HB1 := Lib.hid B1
  have e1 : decide ((n0 : Int) < 1) = false := decide_eq_false (by omega)
  have e2 : decide ((30 : Int) < (n0 : Int)) = false := decide_eq_false (by omega)
  clear h0 h1 B1
  go_enter Try.func22, Try.ntmps22
  go_wp2_with (fail)
  refine (C.out).mono ?_
  rintro e w2 ⟨v2, rfl, ho, hb⟩
  have HB2 := Lib.hid (HB1.out.trans (hb.mono HB1.out.size))
  obtain ⟨Av, cv, rfl, hnc, hcm⟩ := own_form ho
  obtain ⟨rv, rfl, _, _⟩ := own_addr ho (by omega)
  have HO := Lib.hid ho
  have hEl : ∀ i, i < n0 + n1 → ∃ A' c', (ys0 ++ ys1)[i]? = some (.slice A' ((lens2 (l0 ++ l1)).getD i 0) c') ∧ (lens2 (l0 ++ l1)).getD i 0 ≤ 9223372036854775807 := by
    intro i hi
    have hl0 := H0.out.clen
    have hl1 := H1.out.clen
    have hy0 := H0.out.ylen
    have hy1 := H1.out.ylen
    unfold lens2
    by_cases hlt : i < n0
    · obtain ⟨A', c', hy, _, hr⟩ := H0.out.el i (l0[i]'(by omega)) (ys0[i]'(by omega)) (List.getElem?_eq_getElem _) (List.getElem?_eq_getElem _)
      have hmx := Kd.C_max hr
      have hd : (List.map List.length (l0 ++ l1)).getD i 0 = (l0[i]'(by omega)).length := by rw [List.getD_eq_getElem?_getD, List.getElem?_map, List.getElem?_append_left (by omega), List.getElem?_eq_getElem (by omega)]; rfl
      rw [hd]
      refine ⟨A', c', ?_, hmx⟩
      rw [List.getElem?_append_left (by omega), List.getElem?_eq_getElem (by omega), hy]
    · obtain ⟨A', c', hy, _, hr⟩ := H1.out.el (i - n0) (l1[i - n0]'(by omega)) (ys1[i - n0]'(by omega)) (List.getElem?_eq_getElem _) (List.getElem?_eq_getElem _)
      have hmx := Kd.C_max hr
      have hd : (List.map List.length (l0 ++ l1)).getD i 0 = (l1[i - n0]'(by omega)).length := by rw [List.getD_eq_getElem?_getD, List.getElem?_map, List.getElem?_append_right (by omega), hl0, List.getElem?_eq_getElem (by omega)]; rfl
      rw [hd]
      refine ⟨A', c', ?_, hmx⟩
      rw [List.getElem?_append_right (by omega), hy0, List.getElem?_eq_getElem (by omega), hy]
  have HEL := Lib.hid hEl
  have HLN : Hid ((lens2 (l0 ++ l1)).length = n0 + n1) := Lib.hid (by have := H0.out.clen; have := H1.out.clen; unfold lens2; simp; omega)
  clear hb ho hEl C e1 e2 hcm
  generalize hls : lens2 (l0 ++ l1) = ls at *
  have HLS := Lib.hid hls
  clear hls
  generalize hN : n0 + n1 = N at *
  have hN0 : 0 < N := by omega
  have hN9 : N ≤ 32 := by omega
  clear hN hl1 hl2 hl3
  go_wp2_with (fail)
  go_loopg [4, 5, 21] (N) (fun q v4 v5 v21 wr => ∃ i n l : Nat, i ≤ N ∧ l ≤ i ∧ Pur.widP (ls.drop i) n l = Pur.widP ls 0 0 ∧ n ≤ 9223372036854775807 ∧ v4 = .int .i64 (n : Int) ∧ v5 = .int .i64 (l : Int) ∧ v21 = .int .i64 (i : Int) ∧ q = N - i ∧ w2 = wr)
  case atStart => exact ⟨0, 0, 0, by omega, by omega, rfl, by omega, rfl, rfl, rfl, rfl, rfl⟩
  case round =>
    obtain ⟨i, n, l, hi, hli, hinv, hn63, rfl, rfl, rfl, hq, rfl⟩ := hrel
    have HQ := Lib.hid hq
    have HI := Lib.hid hinv
    clear hq hinv
    by_cases hlt : i < N
    · obtain ⟨A', c', hy, hk63⟩ := HEL.out i hlt
      have hc := own_cell HO.out (j := i) (by omega)
      rw [hy] at hc
      have HST : Hid (Pur.widP (ls.drop i) n l = if ls.getD i 0 = 0 then Pur.widP (ls.drop (i + 1)) n (l + 1) else if n = 0 then Pur.widP (ls.drop (i + 1)) (ls.getD i 0) l else if n ≠ ls.getD i 0 then (0, 0) else Pur.widP (ls.drop (i + 1)) n l) := Lib.hid (by
        rw [List.drop_eq_getElem_cons (by rw [HLN.out]; exact hlt)]
        rw [List.getD_eq_getElem?_getD, List.getElem?_eq_getElem (by rw [HLN.out]; exact hlt)]
        rfl)
      clear hy
      generalize ls.getD i 0 = k at *
      by_cases hk : k = 0
      · have q1 : ((k : Int) == 0) = true := bT (by omega)
        have HN := HST.out
        rw [if_pos hk, HI.out] at HN
        have HN := Lib.hid HN
        clear HST hk
        go_wp2_with (fail)
        go_roundg (N - (i + 1))
        case measure => have := HQ.out; omega
        case rel => exact ⟨i + 1, n, l + 1, by omega, by omega, HN.out.symm, hn63, rfl, by go_num, by go_num, rfl, rfl⟩
      · have q1 : ((k : Int) == 0) = false := bF (by omega)
        have HN := HST.out
        rw [if_neg hk, HI.out] at HN
        clear HST hk
        by_cases hn : n = 0
        · have q2 : ((n : Int) == 0) = true := bT (by omega)
          rw [if_pos hn] at HN
          have HN := Lib.hid HN
          clear hn
          go_wp2_with (fail)
          go_roundg (N - (i + 1))
          case measure => have := HQ.out; omega
          case rel => exact ⟨i + 1, k, l, by omega, by omega, HN.out.symm, hk63, rfl, rfl, by go_num, rfl, rfl⟩
        · have q2 : ((n : Int) == 0) = false := bF (by omega)
          rw [if_neg hn] at HN
          clear hn
          by_cases hnk : n = k
          · have q3 : ((n : Int) != (k : Int)) = false := by rw [hnk]; exact bne_self_eq_false _
            rw [if_neg (by omega)] at HN
            have HN := Lib.hid HN
            clear hnk
            go_wp2_with (fail)
            go_roundg (N - (i + 1))
            case measure => have := HQ.out; omega
            case rel => exact ⟨i + 1, n, l, by omega, by omega, HN.out.symm, hn63, rfl, rfl, by go_num, rfl, rfl⟩
          · have q3 : ((n : Int) != (k : Int)) = true := by rw [bne_iff_ne]; omega
            rw [if_pos hnk] at HN
            have HW : Hid (Pur.wid ls = (0, 0)) := Lib.hid (by unfold Pur.wid; rw [HN]; rfl)
            clear HN hnk
            go_wp2_with (fail)
            go_ret2
            exact ⟨by rw [HLS.out, HW.out]; rfl, HB2.out⟩
    · obtain rfl : i = N := by omega
      have HN := HI.out
      rw [List.drop_of_length_le (by rw [HLN.out]; omega)] at HN
      have HN := Lib.hid (show (n, l) = Pur.widP ls 0 0 from HN)
      by_cases h4 : 4096 < n
      · have q1 : decide ((4096 : Int) < (n : Int)) = true := decide_eq_true (by omega)
        have HW : Hid (Pur.wid ls = (0, 0)) := Lib.hid (by unfold Pur.wid; rw [← HN.out]; exact if_pos h4)
        clear HN
        go_wp2_with (fail)
        go_ret2
        exact ⟨by rw [HLS.out, HW.out]; rfl, HB2.out⟩
      · have q1 : decide ((4096 : Int) < (n : Int)) = false := decide_eq_false (by omega)
        have HW : Hid (Pur.wid ls = (n, l)) := Lib.hid (by unfold Pur.wid; rw [← HN.out]; exact if_neg h4)
        clear HN
        go_wp2_with (fail)
        go_ret2
        exact ⟨by rw [HLS.out, HW.out]; rfl, HB2.out⟩
set_option maxRecDepth 100000 in
theorem width_no (w : World) (A0 : Option Addr) (c0 n0 : Nat) (v : Value) (hx : n0 ≤ 9223372036854775807) (hl : n0 < 1 ∨ 30 < n0) :
    Calls Try.prog 22 #[.slice A0 n0 c0, v] w fun e w' => e = .returned (.tuple #[.int .i64 0, .int .i64 0]) ∧ w' = w := by
  by_cases h1 : n0 < 1
  · have e1 : decide ((n0 : Int) < 1) = true := decide_eq_true (by omega)
    go_enter Try.func22, Try.ntmps22
    go_wp2_with (fail)
    go_ret2
    exact ⟨rfl, rfl⟩
  · have e1 : decide ((n0 : Int) < 1) = false := decide_eq_false (by omega)
    have e2 : decide ((30 : Int) < (n0 : Int)) = true := decide_eq_true (by omega)
    go_enter Try.func22, Try.ntmps22
    go_wp2_with (fail)
    go_ret2
    exact ⟨rfl, rfl⟩
end Go.Proofs.Ythjodjfjeamilaa.Wd
namespace Go.Proofs.Ythjodjfjeamilaa.PA
open Go Go.RowKit Go.Proofs.YthjodjfjeamilaaW.PrintWords Go.Proofs.YthjodjfjeamilaaW.PrintLast Go.Proofs.YthjodjfjeamilaaW.PrintMore
/-- What width answers. -/
def parity_width.f (l0 l1 : List (List Int)) : Option (Int × Int) :=
  if l1.length ≤ 2 then some (if l0.length < 1 ∨ 30 < l0.length then (0, 0) else (((Pur.wid (Wd.lens2 (l0 ++ l1))).1 : Int), ((Pur.wid (Wd.lens2 (l0 ++ l1))).2 : Int))) else none
theorem parity_width.calls (A0 : Option Addr) (c0 : Nat) (l0 : List (List Int)) (A1 : Option Addr) (c1 : Nat) (l1 : List (List Int)) (r1 r2 : Int) (w : World) (hr0 : Kd.C (Kd.slice 5 (Kd.int .u8)) w A0 l0.length l0) (hc0 : l0.length ≤ c0) (hr1 : Kd.C (Kd.slice 5 (Kd.int .u8)) w A1 l1.length l1) (hc1 : l1.length ≤ c1) (h : parity_width.f l0 l1 = some (r1, r2)) :
    Calls Try.prog 22 #[.slice A0 l0.length c0, .slice A1 l1.length c1] w fun e w' => e = .returned (.tuple #[.int .i64 r1, .int .i64 r2]) ∧ Below w.heap.size w w' := by
  unfold parity_width.f at h
  by_cases h2 : l1.length ≤ 2
  · rw [if_pos h2] at h
    injection h with h
    by_cases h1 : l0.length < 1 ∨ 30 < l0.length
    · rw [if_pos h1] at h
      injection h with ha hb
      subst ha hb
      refine (Wd.width_no w A0 c0 l0.length _ (Kd.C_max hr0) h1).mono ?_
      rintro e w' ⟨rfl, rfl⟩
      exact ⟨rfl, Below.refl _ _⟩
    · rw [if_neg h1] at h
      injection h with ha hb
      subst ha hb
      obtain ⟨ys0, k0⟩ := Wd.cl_of hr0
      obtain ⟨ys1, k1⟩ := Wd.cl_of hr1
      exact Wd.width_ok w A0 c0 l0.length ys0 l0 A1 c1 l1.length ys1 l1 k0 k1 (by omega) (by omega) h2
  · rw [if_neg h2] at h
    cases h
end Go.Proofs.Ythjodjfjeamilaa.PA
