/- Sectors, and slices of them, that came in. -/
import Derived.Test.YtjpdjhmajjbgmaaCin
import Derived.Test.YtjpdjhmajjbgmaaAwm
import Derived.ChangeSlices
import Derived.OpenShut
namespace Go.Proofs.Ytjpdjhmajjbgmaa.Wd
open Go.RowKit Go.ChangeShapes Go.WideShapes Go.Deep
set_option linter.unusedVariables false
set_option linter.unusedSimpArgs false
theorem open_sl {H : Type} {enc : TypeId × Value → H} {W : World} {base : Nat} {v : Value} {d : DataW H} {p : List MemPlace} (hv : Value.okWide Try.prog W .any base 22 v) (h : DataW.Trod enc Try.prog W 0 (fun _ => true) true 22 v d p) :
    ∃ (n : Nat) (bs : List Int), Rd W v n 16 (u8s bs) := by
  obtain ⟨A, n, cap, rfl⟩ := okWide_slice Try.underlying22 hv
  obtain ⟨fuel, hf⟩ := h
  obtain ⟨A', n', cap', bs, hc, hr, _⟩ := open_secs (fun _ => rfl) hf
  have e : (Value.slice A n cap).cells.toList = [.slice A n cap] := rfl
  rw [e] at hc
  simp only [List.cons.injEq, and_true] at hc
  exact ⟨n', bs, by rw [hc]; exact hr⟩
theorem open_se {H : Type} {enc : TypeId × Value → H} {W : World} {base : Nat} {v : Value} {d : DataW H} {p : List MemPlace} (hv : Value.okWide Try.prog W .any base 24 v) (h : DataW.Trod enc Try.prog W 0 (fun _ => true) true 24 v d p) :
    ∃ l : List Int, v = Md.sval l ∧ l.length = 16 := by
  obtain ⟨cs, rfl, hcs⟩ : ∃ cs, v = .agg cs ∧ cs.size = Try.prog.cellsOf 24 := by
    simp only [Value.okWide, Try.underlying24] at hv
    obtain ⟨cs, h1, h2, _⟩ := hv
    exact ⟨cs, h1, h2⟩
  have h24 : Try.prog.cellsOf 24 = 16 := by kernel_rfl
  rw [h24] at hcs
  obtain ⟨fuel, hf⟩ := h
  obtain ⟨xs, k, _, _, hcl, hxl, hd⟩ := DataW.trod_array Try.underlying24 hf
  have hcc : (Value.agg cs).cells.toList = cs.toList := rfl
  rw [hcc] at hd
  have h5 : Try.prog.cellsOf 5 = 1 := by kernel_rfl
  have hl : cs.toList.length = 16 := by simpa using hcs
  have key : ∀ j, ∃ z : Int, ∀ hj : j < 16, cs.toList[j]'(by omega) = .int .u8 z := by
    intro j
    by_cases hj : j < 16
    · have hd1 := hd j hj
      rw [h5, Nat.mul_one, List.drop_eq_getElem_cons (by omega)] at hd1
      have hd1 : DataW.trod enc Try.prog W 0 (fun _ => true) true k 5 [cs.toList[j]'(by omega)] = xs[j]? := hd1
      rw [List.getElem?_eq_getElem (by omega)] at hd1
      obtain ⟨z, e, _, _⟩ := DataW.trod_int Try.underlying5 hd1
      simp only [List.cons.injEq, and_true] at e
      exact ⟨z, fun _ => e⟩
    · exact ⟨0, fun h => absurd h hj⟩
  obtain ⟨F, hF⟩ := Classical.skolem.1 key
  refine ⟨(List.range 16).map F, ?_, by simp⟩
  unfold Md.sval
  congr 1
  rw [← Array.toArray_toList (xs := cs)]
  congr 1
  apply List.ext_getElem
  · rw [hl]; simp [u8s]
  · intro j h1 h2
    rw [hF j (by omega)]
    simp [u8s]
end Go.Proofs.Ytjpdjhmajjbgmaa.Wd
namespace Go.Proofs.Ytjpdjhmajjbgmaa.Md
theorem u8_nat {x : Int} (h : (Lit.int .u8 x).wf = true) : x = ((x.toNat : Nat) : Int) ∧ x.toNat < 256 := by
  simp [Lit.wf] at h
  have e0 : IntKind.u8.min = 0 := by decide
  have e1 : IntKind.u8.max = 255 := by decide
  omega
end Go.Proofs.Ytjpdjhmajjbgmaa.Md
