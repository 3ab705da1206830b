/- A script of steps that came in. -/
import Derived.Test.YtiemlpkkbfojfaaDo
namespace Go.Proofs.Ytiemlpkkbfojfaa.Res
open Go.RowKit Go.ChangeShapes Go.WideShapes Go.Deep
/-- A step of a script. -/
structure OpR where
  kd : Int
  ini : Int
  rs : Int
  ky : Int
  kp : Bool
def OpR.wf (o : OpR) : Prop := (Lit.int .i64 o.kd).wf = true ∧ (Lit.int .i64 o.ini).wf = true ∧ (Lit.int .i64 o.rs).wf = true ∧ (Lit.int .u64 o.ky).wf = true
/-- A script that came in. -/
def InOps (w : World) (A : Option Addr) (os : List OpR) : Prop :=
  os = [] ∨ ∃ b off, A = some ⟨b, off, none⟩ ∧ b < w.heap.size ∧ ∀ i o, os[i]? = some o →
    w.cell? ⟨b, off + i * 5, none⟩ = some (.int .i64 o.kd) ∧ w.cell? ⟨b, off + i * 5 + 1, none⟩ = some (.int .i64 o.ini) ∧ w.cell? ⟨b, off + i * 5 + 2, none⟩ = some (.int .i64 o.rs) ∧
    w.cell? ⟨b, off + i * 5 + 3, none⟩ = some (.int .u64 o.ky) ∧ w.cell? ⟨b, off + i * 5 + 4, none⟩ = some (.bool o.kp)
theorem InOps.below {w w' : World} {A : Option Addr} {os : List OpR} (h : InOps w A os) (hb : Below w.heap.size w w') : InOps w' A os := by
  rcases h with h | ⟨b, off, hA, hlt, h⟩
  · exact .inl h
  · refine .inr ⟨b, off, hA, Nat.lt_of_lt_of_le hlt hb.size, fun i o ho => ?_⟩
    simp only [bcell hb b _ hlt]
    exact h i o ho
/-- A step's desk. -/
def Dk.run (d : Dk) (o : OpR) : Dk := d.step o.kd o.ini o.rs o.ky o.kp
def Dk.runE (d : Dk) (o : OpR) : Int := d.stepE o.kd o.ini o.rs o.ky
section
variable {H : Type} {enc : TypeId × Value → H} {P : Program} {w : World} {base : Nat} {spare : Nat → Bool} {held : Bool}
theorem open_slice_fields {t e : TypeId} {fs : Array Field} {fuel : Nat} {cs : List Value} {x : DataW H × List MemPlace} (ht : P.underlying t = some (.slice e)) (he : P.underlying e = some (.struct fs))
    (hone : oneCellFields P fs = true) (hC : P.cellsOf e = fs.size) (h : DataW.trod enc P w base spare held fuel t cs = some x) :
    (cs = [.slice none 0 0] ∧ x = (.nil, [])) ∨
    ∃ (a : Addr) (len cap m : Nat) (D : Nat → DataW H) (Pl : Nat → List MemPlace), cs = [.slice (some a) len cap] ∧ base ≤ a.block ∧ len ≤ cap ∧ cap ≤ maxLen ∧ m = (if spare a.block then cap else len) ∧
      x = (.slice ((List.range len).map D) ((List.range (m - len)).map fun j => D (len + j)), MemPlace.row a (m * fs.size) ++ (List.range m).flatMap Pl) ∧
      ∀ i, i < m → ∃ (ys : List (DataW H × List MemPlace)) (n : Nat), D i = .agg (ys.map (·.1)) ∧ Pl i = ys.flatMap (·.2) ∧ ys.length = fs.size ∧
        ∀ (j : Nat) (f : Field), fs[j]? = some f → ∃ (v : Value) (y : DataW H × List MemPlace), w.cell? (a.add (i * fs.size + j)) = some v ∧ ys[j]? = some y ∧ DataW.trod enc P w base spare held n f.type [v] = some y := by
  rcases open_slice ht h with h0 | ⟨a, len, cap, m, n, D, Pl, hcs, hb, hl, hm, hmm, hx, hi⟩
  · exact .inl h0
  · refine .inr ⟨a, len, cap, m, D, Pl, hcs, hb, hl, hm, hmm, by rw [hC] at hx; exact hx, fun i him => ?_⟩
    obtain ⟨cs', hc, ht'⟩ := hi i him
    rw [hC] at hc
    obtain ⟨ys, n', hn', hy, hlen, hyl, hf⟩ := DataW.trod_struct he ht'
    obtain ⟨_, hcl, hat⟩ := World.cells?_some hc
    simp only [Prod.mk.injEq] at hy
    refine ⟨ys, n', hy.1, hy.2, hyl, fun j f hj => ?_⟩
    obtain ⟨ho, hk⟩ := hone_of hone j f hj
    have hjl : j < fs.size := (Array.getElem?_eq_some_iff.1 hj).1
    have hcell := hat j hjl
    have hv : cs'[j]? = some (cs'[j]'(by omega)) := List.getElem?_eq_getElem (by omega)
    have h1 := hf j f hj
    rw [ho, hk] at h1
    have hone' : (cs'.drop j).take 1 = [cs'[j]'(by omega)] := by
      rw [List.drop_eq_getElem_cons (by omega)]
      rfl
    rw [hone'] at h1
    have hys : ys[j]? = some (ys[j]'(by omega)) := List.getElem?_eq_getElem (by omega)
    refine ⟨_, _, ?_, hys, h1.trans hys⟩
    rw [← Go.Deep.add_add, hcell, hv]
end
theorem open_ops {H : Type} {enc : TypeId × Value → H} {W : World} {base : Nat} {v : Value} {d : DataW H} {p : List MemPlace} (hv : Value.okWide Try.prog W .any base 39 v) (h : DataW.Trod enc Try.prog W 0 (fun _ => true) true 39 v d p) :
    ∃ (A : Option Addr) (cap : Nat) (os : List OpR), v = .slice A os.length cap ∧ os.length ≤ cap ∧ cap ≤ maxLen ∧ InOps W A os ∧
      ∀ o ∈ os, (Lit.int .i64 o.kd).wf = true ∧ (Lit.int .i64 o.ini).wf = true ∧ (Lit.int .i64 o.rs).wf = true ∧ (Lit.int .u64 o.ky).wf = true := by
  obtain ⟨a0, len0, cap0, rfl⟩ := okWide_slice Try.underlying39 hv
  obtain ⟨fuel, hf⟩ := h
  rcases open_slice_fields Try.underlying39 Try.underlying45 (by kernel_rfl) (by kernel_rfl) hf with ⟨hc, _⟩ | ⟨a, len, cap, m, D, Pl, hc, _, hl, hm, hmm, _, hi⟩
  · simp [Value.cells] at hc
    obtain ⟨rfl, rfl, rfl⟩ := hc
    exact ⟨none, 0, [], rfl, Nat.le_refl _, by unfold maxLen; omega, .inl rfl, fun o ho => by cases ho⟩
  · simp [Value.cells] at hc
    obtain ⟨rfl, rfl, rfl⟩ := hc
    have hmc : m = cap0 := by simpa using hmm
    have key : ∀ i, ∃ o : OpR, i < len0 → (W.cell? (a.add (i * 5)) = some (.int .i64 o.kd) ∧ W.cell? (a.add (i * 5 + 1)) = some (.int .i64 o.ini) ∧ W.cell? (a.add (i * 5 + 2)) = some (.int .i64 o.rs) ∧
        W.cell? (a.add (i * 5 + 3)) = some (.int .u64 o.ky) ∧ W.cell? (a.add (i * 5 + 4)) = some (.bool o.kp)) ∧
        ((Lit.int .i64 o.kd).wf = true ∧ (Lit.int .i64 o.ini).wf = true ∧ (Lit.int .i64 o.rs).wf = true ∧ (Lit.int .u64 o.ky).wf = true) := by
      intro i
      by_cases hil : i < len0
      · obtain ⟨ys, n, _, _, _, hfl⟩ := hi i (by omega)
        obtain ⟨v0, y0, c0, _, t0⟩ := hfl 0 _ rfl
        obtain ⟨v1, y1, c1, _, t1⟩ := hfl 1 _ rfl
        obtain ⟨v2, y2, c2, _, t2⟩ := hfl 2 _ rfl
        obtain ⟨v3, y3, c3, _, t3⟩ := hfl 3 _ rfl
        obtain ⟨v4, y4, c4, _, t4⟩ := hfl 4 _ rfl
        obtain ⟨n0, e0, _, w0⟩ := DataW.trod_int Try.underlying3 t0
        obtain ⟨n1, e1, _, w1⟩ := DataW.trod_int Try.underlying3 t1
        obtain ⟨n2, e2, _, w2⟩ := DataW.trod_int Try.underlying3 t2
        obtain ⟨n3, e3, _, w3⟩ := DataW.trod_int Try.underlying27 t3
        obtain ⟨b4, e4, _⟩ := DataW.trod_bool Try.underlying4 t4
        simp only [List.cons.injEq, and_true] at e0 e1 e2 e3 e4
        subst e0 e1 e2 e3 e4
        exact ⟨⟨n0, n1, n2, n3, b4⟩, fun _ => ⟨⟨c0, c1, c2, c3, c4⟩, w0, w1, w2, w3⟩⟩
      · exact ⟨⟨0, 0, 0, 0, false⟩, fun h => absurd h hil⟩
    obtain ⟨F, hF⟩ := Classical.skolem.1 key
    have hlen : ((List.range len0).map F).length = len0 := by simp
    refine ⟨some a, cap0, (List.range len0).map F, by rw [hlen], by rw [hlen]; exact hl, hm, ?_, ?_⟩
    · rcases Nat.eq_zero_or_pos len0 with h0 | h0
      · subst h0; exact .inl rfl
      · have hc0 := (hF 0 h0).1.1
        rw [Nat.zero_mul, show a.add 0 = a from rfl] at hc0
        obtain ⟨hs, hb⟩ := addr_plain hc0
        obtain ⟨b, off, spot⟩ := a
        simp only at hs hb
        subst hs
        refine .inr ⟨b, off, rfl, hb, fun i o ho => ?_⟩
        have hil : i < len0 := by have := (List.getElem?_eq_some_iff.1 ho).1; simpa using this
        rw [List.getElem?_map, List.getElem?_range hil] at ho
        injection ho with ho
        subst ho
        obtain ⟨⟨c0, c1, c2, c3, c4⟩, _⟩ := hF i hil
        simp only [addr_add] at c0 c1 c2 c3 c4
        exact ⟨c0, c1, c2, c3, c4⟩
    · intro o ho
      rw [List.mem_map] at ho
      obtain ⟨i, hi', rfl⟩ := ho
      exact (hF i (List.mem_range.1 hi')).2
/-- What holds of a desk behind any steps: sixteen keys; a reservation's holder is one of the sixteen, and is registered; the kind is one of four. -/
structure Dk.fine (d : Dk) : Prop where
  len : d.keys.length = 16
  holder : isIn d.holder
  key : d.kind ≠ 0 → d.key d.holder.toNat ≠ 0
  kind : 0 ≤ d.kind ∧ d.kind ≤ 4
theorem fine_new : Dk.new.fine := ⟨rfl, ⟨by decide, by decide⟩, fun h => absurd rfl h, by decide, by decide⟩
theorem fine_wiped (d : Dk) : d.wiped.fine := ⟨rfl, ⟨Int.le_refl 0, show (0 : Int) < 16 by decide⟩, fun h => absurd rfl h, Int.le_refl 0, show (0 : Int) ≤ 4 by decide⟩
theorem key_set {ks : List Int} {i j : Nat} {k : Int} (hl : ks.length = 16) (hi : i < 16) : (ks.set i k).getD j 0 = if i = j then k else ks.getD j 0 := by
  rw [List.getD_eq_getElem?_getD, List.getElem?_set]
  by_cases h : i = j
  · rw [if_pos h, if_pos h, if_pos (by omega)]; rfl
  · rw [if_neg h, if_neg h, ← List.getD_eq_getElem?_getD]
theorem fine_reg {d : Dk} (h : d.fine) (n k : Int) (kp : Bool) : (d.reg n k kp).fine := by
  unfold Dk.reg
  by_cases hi : isIn n
  · rw [if_pos hi]
    refine ⟨by simp [h.len], h.holder, ?_, ?_⟩
    · intro hk
      by_cases hc : k = 0 ∧ d.holder = n
      · exact absurd (if_pos hc) hk
      · have hk' : d.kind ≠ 0 := by intro h0; apply hk; show (if k = 0 ∧ d.holder = n then 0 else d.kind) = 0; rw [h0, ite_self]
        show (d.keys.set n.toNat k).getD d.holder.toNat 0 ≠ 0
        rw [key_set h.len (by have := hi.1; have := hi.2; omega)]
        by_cases hj : n.toNat = d.holder.toNat
        · rw [if_pos hj]
          intro h0
          have := hi.1; have := h.holder.1
          exact hc ⟨h0, by omega⟩
        · rw [if_neg hj]; exact h.key hk'
    · show 0 ≤ (if k = 0 ∧ d.holder = n then 0 else d.kind) ∧ (if k = 0 ∧ d.holder = n then 0 else d.kind) ≤ 4
      split
      · exact ⟨by decide, by decide⟩
      · exact h.kind
  · rw [if_neg hi]; exact h
theorem fine_res {d : Dk} (h : d.fine) (n k : Int) : (d.res n k).fine := by
  unfold Dk.res
  by_cases hE : d.resE n k = 0
  · rw [if_pos hE]
    unfold Dk.resE at hE
    by_cases h1 : ¬ isIn n ∨ k < 1 ∨ 4 < k
    · rw [if_pos h1] at hE; cases hE
    · rw [if_neg h1] at hE
      by_cases h2 : d.key n.toNat = 0
      · rw [if_pos h2] at hE; cases hE
      · have hin : isIn n := Classical.byContradiction fun c => h1 (.inl c)
        exact ⟨h.len, hin, fun _ => h2, by show 0 ≤ k ∧ k ≤ 4; omega⟩
  · rw [if_neg hE]; exact h
theorem fine_rel {d : Dk} (h : d.fine) (n : Int) : (d.rel n).fine := by
  unfold Dk.rel
  split
  · exact ⟨h.len, h.holder, fun c => absurd rfl c, Int.le_refl 0, show (0 : Int) ≤ 4 by decide⟩
  · exact h
theorem fine_clr {d : Dk} (h : d.fine) (n : Int) : (d.clr n).fine := by
  unfold Dk.clr; split; exact fine_wiped d; exact h
theorem fine_lose {d : Dk} (h : d.fine) : d.lose.fine := by
  unfold Dk.lose; split; exact h; exact fine_wiped d
theorem struck_get (d : Dk) (n k : Int) (i : Nat) (hi : i < 16) : (d.struck n k 16).getD i 0 = if (i : Int) ≠ n ∧ d.key i = k then 0 else d.key i := by
  unfold Dk.struck
  rw [List.getD_eq_getElem?_getD, List.getElem?_map, List.getElem?_range hi]
  simp [hi]
theorem fine_pre {d : Dk} (h : d.fine) (n k : Int) : (d.pre n k).fine := by
  unfold Dk.pre
  by_cases hE : d.preE n k = 0
  · rw [if_pos hE]
    have hin : isIn n := Classical.byContradiction fun c => by rw [preE_arg (.inl c)] at hE; cases hE
    have hkn : d.key n.toNat ≠ 0 := fun c => by
      by_cases h0 : ¬ isIn n ∨ k = 0
      · rw [preE_arg h0] at hE; cases hE
      · rw [preE_none h0 c] at hE; cases hE
    have n16 : n.toNat < 16 := by have := hin.1; have := hin.2; omega
    have hnn : (n.toNat : Int) = n := Int.toNat_of_nonneg hin.1
    have h16 : d.holder.toNat < 16 := by have := h.holder.1; have := h.holder.2; omega
    have hhn : (d.holder.toNat : Int) = d.holder := Int.toNat_of_nonneg h.holder.1
    refine ⟨struck_length _ _ _ _, ?_, ?_, h.kind⟩
    · show isIn (if d.held n k 16 = true then n else d.holder)
      split
      · exact hin
      · exact h.holder
    · intro hk
      have hk : d.kind ≠ 0 := hk
      show (d.struck n k 16).getD (if d.held n k 16 = true then n else d.holder).toNat 0 ≠ 0
      cases hh : d.held n k 16 with
      | true =>
        rw [if_pos rfl, struck_get d n k _ n16, if_neg (fun c => c.1 hnn)]
        exact hkn
      | false =>
        rw [if_neg (by decide), struck_get d n k _ h16, if_neg]
        · exact h.key hk
        · rintro ⟨c1, c2⟩
          rw [held_true hk hhn.symm h16 (by rw [← hhn]; exact c1) c2] at hh
          cases hh
  · rw [if_neg hE]; exact h
theorem fine_run {d : Dk} (h : d.fine) (o : OpR) : (d.run o).fine := by
  unfold Dk.run Dk.step
  split; exact fine_reg h _ _ _
  split; exact fine_res h _ _
  split; exact fine_rel h _
  split; exact fine_clr h _
  split; exact fine_pre h _ _
  split; exact fine_lose h
  exact h
/-- What Holder tells. -/
def Dk.hH (d : Dk) : Int := if d.kind = 0 then 0 else d.holder
def Dk.hE (d : Dk) : Int := if d.kind = 0 then 10 else 0
theorem Holder_any (g : Nat) (d : Dk) (w : World) (h : HasD w g d) :
    Calls Try.prog 17 #[.pointer (some ⟨g, 0, none⟩)] w fun e w' => e = .returned (.tuple #[.int .i64 d.hH, .int .i64 d.kind, .int .i64 d.hE]) ∧ Below w.heap.size w w' := by
  by_cases hk : d.kind = 0
  · have e1 : d.hH = 0 := by unfold Dk.hH; rw [if_pos hk]
    have e2 : d.hE = 10 := by unfold Dk.hE; rw [if_pos hk]
    rw [e1, e2, hk]
    exact Holder_none g d w h hk
  · have e1 : d.hH = d.holder := by unfold Dk.hH; rw [if_neg hk]
    have e2 : d.hE = 0 := by unfold Dk.hE; rw [if_neg hk]
    rw [e1, e2]
    exact Holder_some g d w h hk
end Go.Proofs.Ytiemlpkkbfojfaa.Res
