/- Laws for slices of sectors that are built of one sector or of two. -/
import Derived.Test.YtjpdjhmajjbgmaaSma
set_option linter.unusedVariables false
set_option linter.unusedSimpArgs false
namespace Go.Proofs.Ytjpdjhmajjbgmaa.Md
open Go Go.RowKit Res
open Wd (Cmd u8s balloc Rd)
theorem list16 {l : List Int} (h : l.length = 16) : ∃ a0 a1 a2 a3 a4 a5 a6 a7 a8 a9 aa ab ac ad ae af, l = [a0, a1, a2, a3, a4, a5, a6, a7, a8, a9, aa, ab, ac, ad, ae, af] := by
  match l, h with
  | [a0, a1, a2, a3, a4, a5, a6, a7, a8, a9, aa, ab, ac, ad, ae, af], _ => exact ⟨_, _, _, _, _, _, _, _, _, _, _, _, _, _, _, _, rfl⟩
theorem run_build1 (a0 a1 a2 a3 a4 a5 a6 a7 a8 a9 aa ab ac ad ae af : Int) (w : World) :
    (Instr.buildSlice 22 1 #[(0, .agg (u8s [a0, a1, a2, a3, a4, a5, a6, a7, a8, a9, aa, ab, ac, ad, ae, af]).toArray)]).run Try.prog w = .ok (.slice (some ⟨w.heap.size, 0, none⟩) 1 1) (w.alloc (.cells (u8s [a0, a1, a2, a3, a4, a5, a6, a7, a8, a9, aa, ab, ac, ad, ae, af]).toArray 24)) := by kernel_rfl
theorem run_build2 (a0 a1 a2 a3 a4 a5 a6 a7 a8 a9 aa ab ac ad ae af b0 b1 b2 b3 b4 b5 b6 b7 b8 b9 ba bb bc bd be bf : Int) (w : World) :
    (Instr.buildSlice 22 2 #[(0, .agg (u8s [a0, a1, a2, a3, a4, a5, a6, a7, a8, a9, aa, ab, ac, ad, ae, af]).toArray), (1, .agg (u8s [b0, b1, b2, b3, b4, b5, b6, b7, b8, b9, ba, bb, bc, bd, be, bf]).toArray)]).run Try.prog w = .ok (.slice (some ⟨w.heap.size, 0, none⟩) 2 2) (w.alloc (.cells (u8s ([a0, a1, a2, a3, a4, a5, a6, a7, a8, a9, aa, ab, ac, ad, ae, af] ++ [b0, b1, b2, b3, b4, b5, b6, b7, b8, b9, ba, bb, bc, bd, be, bf])).toArray 24)) := by kernel_rfl
theorem wpList_build1 {ops : Array Oper} {rest : List Oper} {o : Oper} {a : Act} {w : World} {Q : Exit → Act → World → Prop} (hw : Region.wanted o (yielded ops a.tmps) = true) (x : Operand) (ho : o.op = .buildSlice 22 1 #[(0, x)]) (xs : List Int) (hx : a.eval x = .agg (u8s xs).toArray) (hl : xs.length = 16)
    (h : wpList Try.prog ops Q rest (a.put o.dst (.slice (some ⟨w.heap.size, 0, none⟩) 1 1)) (w.alloc (.cells (u8s xs).toArray 24))) : wpList Try.prog ops Q (o :: rest) a w := by
  refine wpList_step fun K hK => ?_
  rw [if_pos hw]
  obtain ⟨a0, a1, a2, a3, a4, a5, a6, a7, a8, a9, aa, ab, ac, ad, ae, af, rfl⟩ := list16 hl
  have hr := run_build1 a0 a1 a2 a3 a4 a5 a6 a7 a8 a9 aa ab ac ad ae af w
  have e : (execOp a.eval o).run Try.prog w = .ok (.value (.slice (some ⟨w.heap.size, 0, none⟩) 1 1)) (w.alloc (.cells (u8s [a0, a1, a2, a3, a4, a5, a6, a7, a8, a9, aa, ab, ac, ad, ae, af]).toArray 24)) := by
    unfold execOp
    simp only [ho, List.map_toArray, List.map_cons, List.map_nil, hx, Sem.run_bind, hr, Result.andThen_ok, Sem.run_pure]
  unfold Oper.wp
  rw [e]
  exact hK _ _ h
theorem wpList_build2 {ops : Array Oper} {rest : List Oper} {o : Oper} {a : Act} {w : World} {Q : Exit → Act → World → Prop} (hw : Region.wanted o (yielded ops a.tmps) = true) (x y : Operand) (ho : o.op = .buildSlice 22 2 #[(0, x), (1, y)]) (xs ys : List Int) (hx : a.eval x = .agg (u8s xs).toArray) (hy : a.eval y = .agg (u8s ys).toArray) (hl : xs.length = 16) (hm : ys.length = 16)
    (h : wpList Try.prog ops Q rest (a.put o.dst (.slice (some ⟨w.heap.size, 0, none⟩) 2 2)) (w.alloc (.cells (u8s (xs ++ ys)).toArray 24))) : wpList Try.prog ops Q (o :: rest) a w := by
  refine wpList_step fun K hK => ?_
  rw [if_pos hw]
  obtain ⟨a0, a1, a2, a3, a4, a5, a6, a7, a8, a9, aa, ab, ac, ad, ae, af, rfl⟩ := list16 hl
  obtain ⟨b0, b1, b2, b3, b4, b5, b6, b7, b8, b9, ba, bb, bc, bd, be, bf, rfl⟩ := list16 hm
  have hr := run_build2 a0 a1 a2 a3 a4 a5 a6 a7 a8 a9 aa ab ac ad ae af b0 b1 b2 b3 b4 b5 b6 b7 b8 b9 ba bb bc bd be bf w
  have e : (execOp a.eval o).run Try.prog w = .ok (.value (.slice (some ⟨w.heap.size, 0, none⟩) 2 2)) (w.alloc (.cells (u8s ([a0, a1, a2, a3, a4, a5, a6, a7, a8, a9, aa, ab, ac, ad, ae, af] ++ [b0, b1, b2, b3, b4, b5, b6, b7, b8, b9, ba, bb, bc, bd, be, bf])).toArray 24)) := by
    unfold execOp
    simp only [ho, List.map_toArray, List.map_cons, List.map_nil, hx, hy, Sem.run_bind, hr, Result.andThen_ok, Sem.run_pure]
  unfold Oper.wp
  rw [e]
  exact hK _ _ h
/-! A compare of a unit that is not reserved. -/
def ccmd (k : Nat) (old now : List Int) : Cmd := ⟨5, k, 0, 2, old ++ now, 0, 0, false⟩
theorem cdo {d : Dk} {ini : Int} (hd : d.kind = 0) (hi : isIn ini) (k cap : Nat) (hk : k < cap) (old now bs : List Int) (ho : old.length = 16) (hn : now.length = 16) :
    doS d cap bs ini (ccmd k old now) = (if sec bs k = old then (1, 0) else (2, 14)) ∧ doB d cap bs ini (ccmd k old now) = (if sec bs k = old then splice bs (k * 16) now else bs) ∧ doN d cap ini (ccmd k old now) = 0 ∧ doX d cap bs ini (ccmd k old now) = [] ∧ gateD d cap ini (ccmd k old now) = d := by
  have hc : (ccmd k old now).chk cap = 0 := by
    unfold Cmd.chk ccmd
    simp only
    rw [if_neg (by omega), if_neg (by omega), if_neg (by omega), if_neg (by omega), if_neg (by omega), if_pos trivial, if_pos trivial]
    unfold Wd.runE
    rw [if_pos]
    unfold Wd.inRun
    omega
  have h0 : ¬ (¬ isIn ini ∨ ¬ (ccmd k old now).chk cap = 0) := by rw [hc]; simp [hi]
  have hs : gateS d cap ini (ccmd k old now) = (3, 0, false) := by
    unfold gateS
    rw [if_neg h0, may_free hd hi false, may_free hd hi true]
    simp [ccmd]
  have hg : gateD d cap ini (ccmd k old now) = d := by
    unfold gateD
    rw [if_neg h0]
    simp [ccmd]
  have e1 : (ccmd k old now).lba.toNat = k := by simp [ccmd]
  have e2 : (ccmd k old now).bs.take 16 = old := by unfold ccmd; simp only; rw [List.take_append_of_le_length (by omega), List.take_of_length_le (by omega)]
  have e3 : (ccmd k old now).bs.drop 16 = now := by unfold ccmd; simp only; rw [List.drop_append_of_le_length (by omega), List.drop_of_length_le (by omega), List.nil_append]
  by_cases h : sec bs k = old
  · obtain ⟨h1, h2, h3, h4⟩ := do_k5y (bs := bs) hs rfl (by rw [e1, e2]; exact h)
    rw [if_pos h, if_pos h]
    exact ⟨h1, by rw [h2, e1, e3], h3, h4, hg⟩
  · obtain ⟨h1, h2, h3, h4⟩ := do_k5n (bs := bs) hs rfl (by rw [e1, e2]; exact h)
    rw [if_neg h, if_neg h]
    exact ⟨h1, h2, h3, h4, hg⟩
end Go.Proofs.Ytjpdjhmajjbgmaa.Md
