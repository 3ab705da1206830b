/- GfPowers, for every byte a and every int n: Exp, Log and Pow of the program are what repeated products give. No condition. This text is the plain law: what the printed functions compute answers true. -/
import Derived.Test.YtpmhoocigdkhbaaPGfPowersx2
import Derived.Test.YtpmhoocigdkhbaaBrPowers
namespace Go.Proofs.Ytpmhoocigdkhbaa.Pure
open Go.RowKit Go.Proofs.Ytpmhoocigdkhbaa.PGfPowers Go.Proofs.YtpmhoocigdkhbaaW.PrintWords Go.Proofs.YtpmhoocigdkhbaaW.PrintLast Go.Proofs.Ytpmhoocigdkhbaa.Bridge Go.Proofs.Ytpmhoocigdkhbaa.BrPGfPowers

theorem GfPowers : ravelinlaw01_GfPowers.Pure := by
  intro a0 n w0 _
  obtain ⟨a, rfl, ha⟩ := wf_u8 w0
  obtain ⟨rl, l1, l2⟩ : ∃ r, Ev (fun k => gf_Log.f k (a : Int)) r ∧ Ev (fun k => ravelinref01_Log.f k (a : Int)) r := by
    by_cases h0 : a = 0
    · subst h0; exact ⟨_, log_ev0, rlog_ev0⟩
    · obtain ⟨m, hm⟩ := isLog_ex a ha h0
      exact ⟨_, log_ev a m ha h0 hm, rlog_ev a m hm⟩
  refine Ev.rounds ?_
  unfold ravelinlaw01_GfPowers.f
  refine Ev.bind l1 (Ev.bind l2 (Ev.bind (pow_ev a n ha) (Ev.bind (rpow_ev a n ha) (Ev.bind awake_ev (Ev.ite_pos rfl (Ev.bind (exp_ev n) (Ev.bind (rexp_ev n) (Ev.ite_pos rfl (Ev.ite_pos rfl (Ev.ite_pos rfl (Ev.ite_pos rfl ?_)))))))))))
  rw [beq_self_eq_true]
  exact Ev.now _

end Go.Proofs.Ytpmhoocigdkhbaa.Pure
