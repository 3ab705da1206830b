/- Slices of sectors that came in, with their bound. -/
import Derived.Test.YtjpdjhmajjbgmaaOsl
set_option linter.unusedVariables false
set_option linter.unusedSimpArgs false
namespace Go.Proofs.Ytjpdjhmajjbgmaa.Wd
open Go.RowKit Go.ChangeShapes Go.WideShapes Go.Deep
theorem open_sl2 {H : Type} {enc : TypeId × Value → H} {W : World} {base : Nat} {v : Value} {d : DataW H} {p : List MemPlace} (hv : Value.okWide Try.prog W .any base 22 v) (h : DataW.Trod enc Try.prog W 0 (fun _ => true) true 22 v d p)
    (hz : ∀ n ∈ d.weights Try.prog 22, n ≤ reachBytes) :
    ∃ (n : Nat) (bs : List Int), Rd W v n 16 (u8s bs) ∧ n * 16 ≤ 140737488355328 := by
  obtain ⟨A, n, cap, rfl⟩ := okWide_slice Try.underlying22 hv
  obtain ⟨fuel, hf⟩ := h
  obtain ⟨A', n', cap', bs, hc, hr, hw⟩ := open_secs (fun _ => rfl) hf
  have e : (Value.slice A n cap).cells.toList = [.slice A n cap] := rfl
  rw [e] at hc
  simp only [List.cons.injEq, and_true] at hc
  refine ⟨n', bs, by rw [hc]; exact hr, ?_⟩
  rcases hw with ⟨_, h0⟩ | ⟨els, sp, hw, hlen⟩
  · omega
  · have hw : d = .slice els sp := hw
    have hmem : (els.length + sp.length) * Try.prog.bytesOf 24 ∈ d.weights Try.prog 22 := by
      rw [hw]; simp [DataW.weights, Try.underlying22]
    have h16 : Try.prog.bytesOf 24 = 16 := by kernel_rfl
    have := hz _ hmem
    rw [h16, hlen] at this
    have hbig : reachBytes ≤ 140737488355328 := by decide
    obtain ⟨_, A2, cap2, hv2, hn2, _⟩ := hr
    injection hv2 with _ _ e3
    omega
end Go.Proofs.Ytjpdjhmajjbgmaa.Wd
