/- GfProducts, for every two bytes a and b: Add, Mul, Inv and Div of the program are those of the polynomials. No condition. This text is the plain law: what the printed functions compute answers true. -/
import Derived.Test.YtpmhoocigdkhbaaPGfProductsx2
import Derived.Test.YtpmhoocigdkhbaaBrProducts
namespace Go.Proofs.Ytpmhoocigdkhbaa.Pure
open Go.RowKit Go.Proofs.Ytpmhoocigdkhbaa.PGfProducts Go.Proofs.YtpmhoocigdkhbaaW.PrintWords Go.Proofs.YtpmhoocigdkhbaaW.PrintLast Go.Proofs.Ytpmhoocigdkhbaa.Bridge Go.Proofs.Ytpmhoocigdkhbaa.BrPGfProducts

theorem GfProducts : ravelinlaw01_GfProducts.Pure := by
  intro a0 a1 w0 w1
  obtain ⟨a, rfl, ha⟩ := wf_u8 w0
  obtain ⟨b, rfl, hb⟩ := wf_u8 w1
  obtain ⟨ri, i1, i2⟩ : ∃ r, Ev (fun k => gf_Inv.f k (a : Int)) r ∧ Ev (fun k => ravelinref01_Inv.f k (a : Int)) r := by
    by_cases h0 : a = 0
    · subst h0; exact ⟨_, inv_ev0, rinv_ev0⟩
    · exact ⟨_, inv_ev a ha h0, rinv_ev a ha h0⟩
  obtain ⟨rd, d1, d2⟩ : ∃ r, Ev (fun k => gf_Div.f k (a : Int) (b : Int)) r ∧ Ev (fun k => ravelinref01_Div.f k (a : Int) (b : Int)) r := by
    by_cases h0 : b = 0
    · subst h0; exact ⟨_, div_ev0 a, rdiv_ev0 a⟩
    · exact ⟨_, div_ev a b ha hb h0, rdiv_ev a b ha hb h0⟩
  refine Ev.rounds ?_
  unfold ravelinlaw01_GfProducts.f
  rw [add_f a b ha hb, xor_u8 a b ha hb]
  refine Ev.bind i1 (Ev.bind i2 (Ev.bind d1 (Ev.bind d2 (Ev.bind awake_ev (Ev.ite_pos rfl (Ev.bind (Ev.now _) (Ev.ite_pos rfl (Ev.bind (mul_ev a b ha hb) (Ev.bind (rmul_ev a b ha hb) (Ev.ite_pos rfl (Ev.ite_pos rfl (Ev.ite_pos rfl (Ev.ite_pos rfl ?_)))))))))))))
  rw [beq_self_eq_true]
  exact Ev.now _

end Go.Proofs.Ytpmhoocigdkhbaa.Pure
