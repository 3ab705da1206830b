/- What holds of a desk behind any steps. -/
import Derived.Test.YtjpdjhmajjbgmaaRef4
set_option linter.unusedVariables false
namespace Go.Proofs.Ytjpdjhmajjbgmaa.Res
open Go.RowKit
/-- What holds of a desk behind any steps: sixteen keys; a reservation's holder is one of the sixteen, and is registered; the kind is one of four. -/
structure Dk.fine (d : Dk) : Prop where
  len : d.keys.length = 16
  holder : isIn d.holder
  key : d.kind ≠ 0 → d.key d.holder.toNat ≠ 0
  kind : 0 ≤ d.kind ∧ d.kind ≤ 4
theorem fine_new : Dk.new.fine := ⟨rfl, ⟨by decide, by decide⟩, fun h => absurd rfl h, by decide, by decide⟩
theorem fine_wiped (d : Dk) : d.wiped.fine := ⟨rfl, ⟨Int.le_refl 0, show (0 : Int) < 16 by decide⟩, fun h => absurd rfl h, Int.le_refl 0, show (0 : Int) ≤ 4 by decide⟩
theorem key_set {ks : List Int} {i j : Nat} {k : Int} (hl : ks.length = 16) (hi : i < 16) : (ks.set i k).getD j 0 = if i = j then k else ks.getD j 0 := by
  rw [List.getD_eq_getElem?_getD, List.getElem?_set]
  by_cases h : i = j
  · rw [if_pos h, if_pos h, if_pos (by omega)]; rfl
  · rw [if_neg h, if_neg h, ← List.getD_eq_getElem?_getD]
theorem fine_reg {d : Dk} (h : d.fine) (n k : Int) (kp : Bool) : (d.reg n k kp).fine := by
  unfold Dk.reg
  by_cases hi : isIn n
  · rw [if_pos hi]
    refine ⟨by simp [h.len], h.holder, ?_, ?_⟩
    · intro hk
      by_cases hc : k = 0 ∧ d.holder = n
      · exact absurd (if_pos hc) hk
      · have hk' : d.kind ≠ 0 := by intro h0; apply hk; show (if k = 0 ∧ d.holder = n then 0 else d.kind) = 0; rw [h0, ite_self]
        show (d.keys.set n.toNat k).getD d.holder.toNat 0 ≠ 0
        rw [key_set h.len (by have := hi.1; have := hi.2; omega)]
        by_cases hj : n.toNat = d.holder.toNat
        · rw [if_pos hj]
          intro h0
          have := hi.1; have := h.holder.1
          exact hc ⟨h0, by omega⟩
        · rw [if_neg hj]; exact h.key hk'
    · show 0 ≤ (if k = 0 ∧ d.holder = n then 0 else d.kind) ∧ (if k = 0 ∧ d.holder = n then 0 else d.kind) ≤ 4
      split
      · exact ⟨by decide, by decide⟩
      · exact h.kind
  · rw [if_neg hi]; exact h
theorem fine_res {d : Dk} (h : d.fine) (n k : Int) : (d.res n k).fine := by
  unfold Dk.res
  by_cases hE : d.resE n k = 0
  · rw [if_pos hE]
    unfold Dk.resE at hE
    by_cases h1 : ¬ isIn n ∨ k < 1 ∨ 4 < k
    · rw [if_pos h1] at hE; cases hE
    · rw [if_neg h1] at hE
      by_cases h2 : d.key n.toNat = 0
      · rw [if_pos h2] at hE; cases hE
      · have hin : isIn n := Classical.byContradiction fun c => h1 (.inl c)
        exact ⟨h.len, hin, fun _ => h2, by show 0 ≤ k ∧ k ≤ 4; omega⟩
  · rw [if_neg hE]; exact h
theorem fine_rel {d : Dk} (h : d.fine) (n : Int) : (d.rel n).fine := by
  unfold Dk.rel
  split
  · exact ⟨h.len, h.holder, fun c => absurd rfl c, Int.le_refl 0, show (0 : Int) ≤ 4 by decide⟩
  · exact h
theorem fine_clr {d : Dk} (h : d.fine) (n : Int) : (d.clr n).fine := by
  unfold Dk.clr; split; exact fine_wiped d; exact h
theorem fine_lose {d : Dk} (h : d.fine) : d.lose.fine := by
  unfold Dk.lose; split; exact h; exact fine_wiped d
theorem struck_get (d : Dk) (n k : Int) (i : Nat) (hi : i < 16) : (d.struck n k 16).getD i 0 = if (i : Int) ≠ n ∧ d.key i = k then 0 else d.key i := by
  unfold Dk.struck
  rw [List.getD_eq_getElem?_getD, List.getElem?_map, List.getElem?_range hi]
  simp [hi]
theorem fine_pre {d : Dk} (h : d.fine) (n k : Int) : (d.pre n k).fine := by
  unfold Dk.pre
  by_cases hE : d.preE n k = 0
  · rw [if_pos hE]
    have hin : isIn n := Classical.byContradiction fun c => by rw [preE_arg (.inl c)] at hE; cases hE
    have hkn : d.key n.toNat ≠ 0 := fun c => by
      by_cases h0 : ¬ isIn n ∨ k = 0
      · rw [preE_arg h0] at hE; cases hE
      · rw [preE_none h0 c] at hE; cases hE
    have n16 : n.toNat < 16 := by have := hin.1; have := hin.2; omega
    have hnn : (n.toNat : Int) = n := Int.toNat_of_nonneg hin.1
    have h16 : d.holder.toNat < 16 := by have := h.holder.1; have := h.holder.2; omega
    have hhn : (d.holder.toNat : Int) = d.holder := Int.toNat_of_nonneg h.holder.1
    refine ⟨struck_length _ _ _ _, ?_, ?_, h.kind⟩
    · show isIn (if d.held n k 16 = true then n else d.holder)
      split
      · exact hin
      · exact h.holder
    · intro hk
      have hk : d.kind ≠ 0 := hk
      show (d.struck n k 16).getD (if d.held n k 16 = true then n else d.holder).toNat 0 ≠ 0
      cases hh : d.held n k 16 with
      | true =>
        rw [if_pos rfl, struck_get d n k _ n16, if_neg (fun c => c.1 hnn)]
        exact hkn
      | false =>
        rw [if_neg (by decide), struck_get d n k _ h16, if_neg]
        · exact h.key hk
        · rintro ⟨c1, c2⟩
          rw [held_true hk hhn.symm h16 (by rw [← hhn]; exact c1) c2] at hh
          cases hh
  · rw [if_neg hE]; exact h
end Go.Proofs.Ytjpdjhmajjbgmaa.Res
