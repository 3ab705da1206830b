/- For ParitySums: contracts over rows of one's own, and the sums of columns byte by byte. -/
import Derived.Test.YthjodjfjeamilaaPurE
import Derived.Test.YthjodjfjeamilaaOpn
import Derived.Test.YthjodjfjeamilaaRcv
set_option linter.unusedVariables false
set_option linter.unusedSimpArgs false
namespace Go.Proofs.Ythjodjfjeamilaa.Pur
open Go Go.RowKit
/-- Two columns, byte by byte. -/
def xc (a b : List Nat) : Nat → Nat := fun k => a.getD k 0 ^^^ b.getD k 0
def xcs (cs ds : List (List Nat)) : List (List Nat) := (List.range cs.length).map fun i => tab (cs.getD i []).length (xc (cs.getD i []) (ds.getD i []))
theorem xcs_len (cs ds : List (List Nat)) : (xcs cs ds).length = cs.length := by simp [xcs]
theorem xcs_get {cs ds : List (List Nat)} {i : Nat} (h : i < cs.length) : (xcs cs ds)[i]? = some (tab (cs.getD i []).length (xc (cs.getD i []) (ds.getD i []))) := by
  unfold xcs
  rw [List.getElem?_map, List.getElem?_range h]
  rfl
theorem xcs_getD {cs ds : List (List Nat)} {i : Nat} (h : i < cs.length) : (xcs cs ds).getD i [] = tab (cs.getD i []).length (xc (cs.getD i []) (ds.getD i [])) := by
  rw [List.getD_eq_getElem?_getD, xcs_get h]; rfl
theorem xcs_take {cs ds : List (List Nat)} {i : Nat} (h : i < cs.length) : (xcs cs ds).take (i + 1) = (xcs cs ds).take i ++ [tab (cs.getD i []).length (xc (cs.getD i []) (ds.getD i []))] := by
  rw [List.take_add_one, xcs_get h]; rfl
theorem xc_lt {a b : List Nat} (ha : Byt a) (hb : Byt b) (k : Nat) : xc a b k < 256 := Math.xor_lt (byt_get ha k) (byt_get hb k)
theorem xcs_mem {cs ds : List (List Nat)} {c : List Nat} (h : c ∈ xcs cs ds) : ∃ i, i < cs.length ∧ c = tab (cs.getD i []).length (xc (cs.getD i []) (ds.getD i [])) := by
  obtain ⟨i, hi, rfl⟩ := List.mem_map.1 h
  exact ⟨i, List.mem_range.1 hi, rfl⟩
theorem xcs_bytt {cs ds : List (List Nat)} (hc : Bytt cs) (hd : Bytt ds) : Bytt (xcs cs ds) := by
  intro c h
  obtain ⟨i, hi, rfl⟩ := xcs_mem h
  exact tab_byt fun k _ => xc_lt (bytt_get hc i) (bytt_get hd i) k
theorem xcs_good {cs ds : List (List Nat)} {n : Nat} (hc : Good cs n) : Good (xcs cs ds) n := by
  refine Good.of (by rw [xcs_len]; exact hc.lo) (by rw [xcs_len]; exact hc.hi) hc.snd.pos hc.snd.lim fun c h => ?_
  obtain ⟨i, hi, rfl⟩ := xcs_mem h
  rw [tab_len]
  exact hc.len _ (getD_mem hi)
theorem ws_xcs (g : Nat → Nat) {cs ds : List (List Nat)} {n : Nat} (hc : Good cs n) (k : Nat) (hk : k < n) : ∀ i, i ≤ cs.length → ws g (xcs cs ds) i k = ws g cs i k ^^^ ws g ds i k
  | 0, _ => by show (0 : Nat) = 0 ^^^ 0; decide
  | i + 1, h => by
    show ws g (xcs cs ds) i k ^^^ Math.mul (g i) (((xcs cs ds).getD i []).getD k 0) = (ws g cs i k ^^^ Math.mul (g i) ((cs.getD i []).getD k 0)) ^^^ (ws g ds i k ^^^ Math.mul (g i) ((ds.getD i []).getD k 0))
    rw [ws_xcs g hc k hk i (by omega), xcs_getD (by omega), tab_get (by rw [hc.len _ (getD_mem (by omega))]; exact hk)]
    unfold xc
    rw [Math.mul_xor, Math.xor_four]
theorem wP_xcs {cs ds : List (List Nat)} {n : Nat} (hc : Good cs n) (hl : cs.length = ds.length) {k : Nat} (hk : k < n) : wP (xcs cs ds) k = wP cs k ^^^ wP ds k := by
  unfold wP
  rw [xcs_len, ws_xcs one hc k hk cs.length (Nat.le_refl _), hl]
theorem wQ_xcs {cs ds : List (List Nat)} {n : Nat} (hc : Good cs n) (hl : cs.length = ds.length) {k : Nat} (hk : k < n) : wQ (xcs cs ds) k = wQ cs k ^^^ wQ ds k := by
  unfold wQ
  rw [xcs_len, ws_xcs Math.e hc k hk cs.length (Nat.le_refl _), hl]
theorem getD_front {cs : List (List Nat)} {z : List Nat} {i : Nat} (h : i < cs.length) : (cs ++ [z]).getD i [] = cs.getD i [] := by
  rw [List.getD_eq_getElem?_getD, List.getElem?_append_left h, ← List.getD_eq_getElem?_getD]
theorem getD_back (cs : List (List Nat)) (z : List Nat) : (cs ++ [z]).getD cs.length [] = z := by
  rw [List.getD_eq_getElem?_getD, List.getElem?_append_right (Nat.le_refl _), Nat.sub_self]; rfl
/-- A column of noughts more. -/
theorem ws_front (g : Nat → Nat) (cs : List (List Nat)) (z : List Nat) (k : Nat) : ∀ i, i ≤ cs.length → ws g (cs ++ [z]) i k = ws g cs i k
  | 0, _ => rfl
  | i + 1, h => by
    show ws g (cs ++ [z]) i k ^^^ Math.mul (g i) (((cs ++ [z]).getD i []).getD k 0) = ws g cs i k ^^^ Math.mul (g i) ((cs.getD i []).getD k 0)
    rw [ws_front g cs z k i (by omega), getD_front (by omega)]
theorem ws_zero (g : Nat → Nat) (cs : List (List Nat)) (n k : Nat) : ws g (cs ++ [tab n fun _ => 0]) (cs.length + 1) k = ws g cs cs.length k := by
  show ws g (cs ++ [_]) cs.length k ^^^ Math.mul (g cs.length) (((cs ++ [tab n fun _ => 0]).getD cs.length []).getD k 0) = _
  rw [ws_front g cs _ k cs.length (Nat.le_refl _), getD_back]
  have e : (tab n fun _ => 0).getD k 0 = 0 := by
    by_cases hk : k < n
    · exact tab_get hk
    · exact getD_far (by rw [tab_len]; omega)
  rw [e, Math.mul_zero, Nat.xor_zero]
theorem wP_zero (cs : List (List Nat)) (n k : Nat) : wP (cs ++ [tab n fun _ => 0]) k = wP cs k := by
  unfold wP
  rw [List.length_append]
  exact ws_zero one cs n k
theorem wQ_zero (cs : List (List Nat)) (n k : Nat) : wQ (cs ++ [tab n fun _ => 0]) k = wQ cs k := by
  unfold wQ
  rw [List.length_append]
  exact ws_zero Math.e cs n k
theorem zero_good {cs : List (List Nat)} {n : Nat} (hc : Good cs n) (h : cs.length ≠ 30) : Good (cs ++ [tab n fun _ => 0]) n := by
  refine Good.of (by simp) (by rw [List.length_append]; have := hc.hi; simp; omega) hc.snd.pos hc.snd.lim fun c h => ?_
  rw [List.mem_append] at h
  rcases h with h | h
  · exact hc.len c h
  · simp at h
    rw [h, tab_len]
theorem zero_bad {cs : List (List Nat)} {n : Nat} (h : cs.length = 30) : ∀ m, ¬ Good (cs ++ [tab n fun _ => 0]) m := by
  intro m hm
  have := hm.hi
  rw [List.length_append] at this
  simp at this
  omega
theorem zero_bytt {cs : List (List Nat)} {n : Nat} (hc : Bytt cs) : Bytt (cs ++ [tab n fun _ => 0]) := by
  intro c h
  rw [List.mem_append] at h
  rcases h with h | h
  · exact hc c h
  · simp at h
    rw [h]
    exact tab_byt fun k _ => by decide
end Go.Proofs.Ythjodjfjeamilaa.Pur
namespace Go.Proofs.Ythjodjfjeamilaa.Wd
open Go Go.RowKit Go.Proofs.YthjodjfjeamilaaW.PrintWords Go.Proofs.YthjodjfjeamilaaW.PrintLast Go.Proofs.YthjodjfjeamilaaW.PrintMore Go.Proofs.Ythjodjfjeamilaa.Bridge Go.Proofs.Ythjodjfjeamilaa.PA Go.Proofs.Ythjodjfjeamilaa.PB Go.Proofs.Ythjodjfjeamilaa.BrPA Go.Proofs.Ythjodjfjeamilaa.Pur
theorem wp_append_ran {P : Program} {w : World} {o : Oper} {a : Act} {K : Act → World → Prop} {Q : Exit → Act → World → Prop} (s x : Operand) (t : TypeId)
    (ho : o.op = .call { callee := .builtin .append, args := #[s, x], argTypes := #[t, t] }) (v u : Value) (hs : a.eval s = v) (hx : a.eval x = u) (v' : Value) (w' : World)
    (hrun : (Builtin.append_ #[t, t] o.type #[v, u]).run P w = .ok v' w') (h : K (a.put o.dst v') w') : o.wp P a w K Q := by
  unfold Oper.wp
  simp [execOp, ho, resolve, invoke, builtin, hs, hx, hrun, Result.andThen]
  exact h
/-- A byte more. -/
theorem own_push {W : World} {base : Nat} {v : Value} {l : List Nat} (h : Own W base v l) (x : Nat) (hb : base ≤ W.heap.size) (hl : l.length ≤ 5000) :
    ∃ v' w1, (Builtin.append_ #[24, 24] 24 #[v, .slice (some ⟨W.heap.size, 0, none⟩) 1 1]).run Try.prog (W.alloc (.cells #[.int .u8 (x : Int)] 5)) = .ok v' w1 ∧ Own w1 base v' (l ++ [x]) ∧ (W.alloc (.cells #[.int .u8 (x : Int)] 5)).grownBy w1 v.ownBlock := by
  obtain ⟨i0, hi0, hz0, hz1, hz2⟩ := info_parts info5b
  have B1 := balloc W (.cells #[.int .u8 (x : Int)] 5)
  obtain ⟨v', w1, hr, h3, h4, _, hat⟩ := run_append_own_at (P := Try.prog) (W.alloc (.cells #[.int .u8 (x : Int)] 5)) base 24 24 5 i0 (.int .u8 0) 1 1 Try.underlying24 hi0 hz0 hz1 hz2 rfl (by decide) v l.length (u8n l) (own_belowB h B1) ⟨W.heap.size, 0, none⟩ 1 1 [.int .u8 (x : Int)] rfl (fun j u hj => by
    have hj0 : j = 0 := by have := (List.getElem?_eq_some_iff.1 hj).1; simp at this; exact this
    subst hj0
    simp only [List.getElem?_cons_zero, Option.some.injEq] at hj
    subst hj
    rw [addr_add, cell_of_heap (heap_alloc_new W _)]
    rfl) (fun u hu => by simp at hu; subst hu; rfl) (by unfold maxLen; omega) (by omega) (by simp; omega)
  refine ⟨v', w1, hr, ?_, h4⟩
  unfold Own
  have e : u8n (l ++ [x]) = u8n l ++ [.int .u8 (x : Int)] := by unfold u8n I; rw [List.map_append]; simp [encs]
  rw [List.length_append, e]
  exact h3
theorem rdB_cell {w : World} {A : Option Addr} {l : List Nat} (h : RdB w A l) {k : Nat} (hk : k < l.length) : ∃ a, A = some a ∧ ∀ W, Below w.heap.size w W → W.cell? (a.add k) = some (.int .u8 ((l.getD k 0 : Nat) : Int)) := by
  have hr := Kd.reads_of_C (d := (0 : Int)) h
  obtain ⟨a, hA, hx⟩ := hr.2.2 (by rw [I_len]; omega)
  refine ⟨a, hA, fun W hW => ?_⟩
  have h1 := hx k (by rw [I_len]; exact hk)
  have e : (I l).getD k 0 = ((l.getD k 0 : Nat) : Int) := by
    have := rd_I l k
    unfold rd at this
    rw [Int.toNat_natCast] at this
    exact this
  rw [e] at h1
  exact cell_below h1 hW
theorem Cols.of_S {w : World} {base : Nat} {ok : Nat → Prop} {v : Value} {cs : List (List Nat)} (h : Kd.S (Kd.slice 5 (Kd.int .u8)) 24 w base ok v (II cs)) : ∃ ys, Cols w base v ys cs := by
  obtain ⟨f, hv, ys, ho, hr⟩ := h
  have hlen : ys.length = cs.length := by
    have := hr.1
    rw [List.length_zipIdx, II_len] at this
    exact this.trans (Nat.mul_one _)
  rw [List.length_zipIdx, II_len] at ho
  have hel : ∀ (j : Nat) y c, ys[j]? = some y → cs[j]? = some c → ∃ ok' : Nat → Prop, Kd.R (Kd.int .u8) 5 w base ok' y (I c) ∧ ∀ k, ok' k → f k = j := by
    intro j y c hy hc
    have hz : (II cs).zipIdx[j]? = some (I c, j) := by
      rw [List.getElem?_zipIdx]
      unfold II
      rw [List.getElem?_map, hc]
      simp
    obtain ⟨v', e, hR⟩ := hr.2 j _ hz
    have hj := (List.getElem?_eq_some_iff.1 hy).1
    have e2 : (ys.drop (j * 1)).take 1 = [y] := by
      rw [Nat.mul_one, List.drop_eq_getElem_cons hj]
      have := (List.getElem?_eq_some_iff.1 hy).2
      rw [this]; rfl
    have e3 : [y] = [v'] := e2.symm.trans e
    injection e3 with e3
    subst e3
    exact ⟨_, hR, fun k hk => hk.2⟩
  refine ⟨ys, hlen, ho, fun j y c hy hc => ?_, fun i j yi yj k hi hj hki hkj => ?_⟩
  · obtain ⟨_, hR, _⟩ := hel j y c hy hc
    exact own_of hR
  · have hil := (List.getElem?_eq_some_iff.1 hi).1
    have hjl := (List.getElem?_eq_some_iff.1 hj).1
    obtain ⟨_, hR1, hf1⟩ := hel i yi _ hi (List.getElem?_eq_getElem (by omega))
    obtain ⟨_, hR2, hf2⟩ := hel j yj _ hj (List.getElem?_eq_getElem (by omega))
    exact (hf1 k (hR1.1 k hki)).symm.trans (hf2 k (hR2.1 k hkj))
theorem encode_any (w : World) (A : Option Addr) (c : Nat) (cs : List (List Nat)) (p q : List Nat) (x : Int) (hr : Kd.C (Kd.slice 5 (Kd.int .u8)) w A (II cs).length (II cs)) (hc : (II cs).length ≤ c) (h : Ev (fun k => parity_Encode.f k (II cs)) (I p, I q, x)) :
    Calls Try.prog 11 #[.slice A (II cs).length c] w fun e w' => ∃ v0 v1, e = .returned (.tuple #[v0, v1, .int .i64 x]) ∧ Own w' w.heap.size v0 p ∧ Own w' w.heap.size v1 q ∧ Below w.heap.size w w' := by
  obtain ⟨k, hk⟩ := h.rounds
  refine (parity_Encode.calls k A c (II cs) _ _ _ w hr hc hk).mono ?_
  rintro e w' ⟨v0, v1, he, h1, h2, h3⟩
  exact ⟨v0, v1, he, own_of h1, own_of h2, h3⟩
theorem copies_any (w : World) (A : Option Addr) (c : Nat) (cs : List (List Nat)) (hr : Kd.C (Kd.slice 5 (Kd.int .u8)) w A (II cs).length (II cs)) (hc : (II cs).length ≤ c) (hn : cs.length ≤ 30) (hl : ∀ c ∈ cs, c.length ≤ 4096) :
    Calls Try.prog 10 #[.slice A (II cs).length c] w fun e w' => ∃ v ys, e = .returned v ∧ Cols w' w.heap.size v ys cs ∧ Below w.heap.size w w' := by
  obtain ⟨k, hk⟩ := (copies_ev (II cs) (by rw [II_len]; omega) (fun d hd => by obtain ⟨x, hx, rfl⟩ := List.mem_map.1 hd; rw [I_len]; have := hl x hx; omega)).rounds
  refine (ravelinlaw05_copies.calls k A c (II cs) _ w hr hc hk).mono ?_
  rintro e w' ⟨v, he, h1, h3⟩
  obtain ⟨ys, hy⟩ := Cols.of_S h1
  exact ⟨v, ys, he, hy, h3⟩
theorem same_any (w : World) (A0 : Option Addr) (c0 : Nat) (l : List Nat) (A1 : Option Addr) (c1 : Nat) (h0 : RdB w A0 l) (k0 : (I l).length ≤ c0) (h1 : RdB w A1 l) (k1 : (I l).length ≤ c1) (hl : l.length ≤ 4096) :
    Calls Try.prog 14 #[.slice A0 (I l).length c0, .slice A1 (I l).length c1] w fun e w' => e = .returned (.bool true) ∧ Below w.heap.size w w' := by
  obtain ⟨k, hk⟩ := (lsame_ev (I l) (I l) (by rw [I_len]; omega)).rounds
  rw [decide_eq_true rfl] at hk
  refine (ravelinlaw05_same.calls k A0 c0 _ A1 c1 _ _ w h0 k0 h1 k1 hk).mono ?_
  rintro e w' ⟨he, hd⟩
  exact ⟨he, hd.below⟩
theorem awake_any (w : World) : Calls Try.prog 13 #[] w fun e w' => e = .returned (.bool true) ∧ Below w.heap.size w w' := by
  obtain ⟨k, hk⟩ := awake_ev.rounds
  exact ravelinlaw05_awake.calls k true w hk
end Go.Proofs.Ythjodjfjeamilaa.Wd
