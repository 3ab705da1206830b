/- Decode of too few bytes. -/
import Derived.Test.YtlkibkemmmppcaaOwn
import Derived.Test.YtlkibkemmmppcaaSam
namespace Go.Proofs.Ytlkibkemmmppcaa.Wd
open Go.RowKit
set_option linter.unusedVariables false
set_option linter.unusedSimpArgs false
theorem results_ct {P : Program} {fn : Func} {p u : Tmp} {ty : TypeId} (h : fn.results = #[.cell p ty, .tmp u]) (tmps : Array Value) (w : World) (g : Nat) (t : TypeId) (cs : Array Value) (fr : Nat × Nat) (d : TypeDesc)
    (hp : tmps.getD p undef = .pointer (some ⟨g, 0, none⟩)) (hg : w.heap[g]? = some (.cells cs t fr))
    (hu : P.underlying ty = some d) (hd : (match d with | .struct _ | .array _ _ => true | _ => false) = true) (hi : (P.info? ty).map (·.size) = some cs.size) :
    (results fn tmps).run P w = .ok (.tuple #[.agg cs, tmps.getD u undef]) w := by
  have hp' : tmps[p]?.getD undef = .pointer (some ⟨g, 0, none⟩) := by simpa using hp
  simp [results, h, hp', asAddr, run_loadVar_row w g t ty cs fr d hg hu hd hi]
def czero : Cmd := ⟨0, 0, 0, 0, [], 0, 0, false⟩
set_option maxRecDepth 100000 in
theorem dec_short (v : Value) (n : Nat) (bs : List Int) (w : World) (h : Rd w v n 1 (u8s bs)) (hn : n < 20) :
    Calls Try.prog 13 #[v] w fun e w' => e = .returned (.tuple #[czero.val (.slice none 0 0), .int .i64 1]) ∧ Below w.heap.size w w' := by
  obtain ⟨A, cap, rfl, _⟩ := h.bform
  clear h
  go_enter Try.func13, Try.ntmps13
  go_wp2_with (fail)
  refine bodyPost_ret (results_ct rfl _ _ (w.heap.size + 1) 25 _ (0, 0) _ rfl (two_last w _ _) Try.underlying25 rfl (by kernel_rfl)) rfl ?_
  exact ⟨rfl, two_below w _ _⟩
set_option maxRecDepth 100000 in
theorem rdec_short (v : Value) (n : Nat) (bs : List Int) (w : World) (h : Rd w v n 1 (u8s bs)) (hn : n < 20) :
    Calls Try.prog 16 #[v] w fun e w' => e = .returned (.tuple #[czero.val (.slice none 0 0), .int .i64 1]) ∧ Below w.heap.size w w' := by
  obtain ⟨A, cap, rfl, _⟩ := h.bform
  clear h
  go_enter Try.func16, Try.ntmps16
  go_wp2_with (fail)
  refine bodyPost_ret (results_ct rfl _ _ w.heap.size 25 _ (0, 0) _ rfl (heap_alloc_new w _) Try.underlying25 rfl (by kernel_rfl)) rfl ?_
  exact ⟨rfl, balloc w _⟩
end Go.Proofs.Ytlkibkemmmppcaa.Wd
