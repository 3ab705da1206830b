/- GfSolves, for every six bytes: two equations have the one solution that is answered, or are refused. No condition. This text is the plain law: what the printed functions compute answers true. -/
import Derived.Test.YtpmhoocigdkhbaaPGfSolvesx2
import Derived.Test.YtpmhoocigdkhbaaBrSolves
namespace Go.Proofs.Ytpmhoocigdkhbaa.Pure
open Go.RowKit Go.Proofs.Ytpmhoocigdkhbaa.PGfSolves Go.Proofs.YtpmhoocigdkhbaaW.PrintWords Go.Proofs.YtpmhoocigdkhbaaW.PrintLast Go.Proofs.Ytpmhoocigdkhbaa.Bridge Go.Proofs.Ytpmhoocigdkhbaa.BrPGfSolves

theorem GfSolves : ravelinlaw01_GfSolves.Pure := by
  intro a0 a1 a2 a3 a4 a5 w0 w1 w2 w3 w4 w5
  obtain ⟨a, rfl, ha⟩ := wf_u8 w0
  obtain ⟨b, rfl, hb⟩ := wf_u8 w1
  obtain ⟨c, rfl, hc⟩ := wf_u8 w2
  obtain ⟨d, rfl, hd⟩ := wf_u8 w3
  obtain ⟨e, rfl, he⟩ := wf_u8 w4
  obtain ⟨f, rfl, hf⟩ := wf_u8 w5
  obtain ⟨r, s1, s2⟩ : ∃ r, Ev (fun k => gf_Solve.f k (a : Int) (b : Int) (c : Int) (d : Int) (e : Int) (f : Int)) r ∧ Ev (fun k => ravelinref01_Solve.f k (a : Int) (b : Int) (c : Int) (d : Int) (e : Int) (f : Int)) r := by
    by_cases h0 : Math.det a b c d = 0
    · exact ⟨_, solve_ev0 a b c d e f ha hb hc hd h0, rsolve_ev0 a b c d e f ha hb hc hd h0⟩
    · exact ⟨_, solve_ev a b c d e f ha hb hc hd he hf h0, rsolve_ev a b c d e f ha hb hc hd he hf h0⟩
  refine Ev.rounds ?_
  unfold ravelinlaw01_GfSolves.f
  refine Ev.bind s1 (Ev.bind s2 (Ev.bind awake_ev (Ev.ite_pos rfl (Ev.ite_pos rfl (Ev.ite_pos rfl ?_)))))
  rw [beq_self_eq_true]
  exact Ev.now _

end Go.Proofs.Ytpmhoocigdkhbaa.Pure
