/- ParitySums where the columns do not fit. -/
import Derived.Test.YthjodjfjeamilaaSmA
set_option linter.unusedVariables false
set_option linter.unusedSimpArgs false
namespace Go.Proofs.Ythjodjfjeamilaa.Wd
open Go Go.RowKit Go.Proofs.YthjodjfjeamilaaW.PrintWords Go.Proofs.YthjodjfjeamilaaW.PrintLast Go.Proofs.YthjodjfjeamilaaW.PrintMore Go.Proofs.Ythjodjfjeamilaa.Bridge Go.Proofs.Ythjodjfjeamilaa.PA Go.Proofs.Ythjodjfjeamilaa.PB Go.Proofs.Ythjodjfjeamilaa.BrPA Go.Proofs.Ythjodjfjeamilaa.Pur
set_option maxRecDepth 100000 in
set_option maxHeartbeats 4000000 in
theorem sums_early (w : World) (A0 : Option Addr) (c0 : Nat) (cs : List (List Nat)) (A1 : Option Addr) (c1 : Nat) (ds : List (List Nat)) (P Q X Y : List Nat) (x y : Int) (h0 : Kd.C (Kd.slice 5 (Kd.int .u8)) w A0 (II cs).length (II cs)) (k0 : (II cs).length ≤ c0) (h1 : Kd.C (Kd.slice 5 (Kd.int .u8)) w A1 (II ds).length (II ds)) (k1 : (II ds).length ≤ c1)
    (E0 : Ev (fun k => parity_Encode.f k (II cs)) (I P, I Q, x)) (E1 : Ev (fun k => parity_Encode.f k (II ds)) (I X, I Y, y)) (hx : x = 0 ∨ x = 1) (hy : y = 0 ∨ y = 1) (hbad : x ≠ 0 ∨ y ≠ 0 ∨ cs.length ≠ ds.length ∨ P.length ≠ X.length) (hpos : x ≠ 0 ∨ 0 < P.length) :
    Calls Try.prog 4 #[.slice A0 (II cs).length c0, .slice A1 (II ds).length c1] w fun e w' => e = .returned (.bool true) ∧ Below w.heap.size w w' := by
  have HEA : Hid (∀ W, Calls Try.prog 13 #[] W fun e w' => e = .returned (.bool true) ∧ Below W.heap.size W w') := Lib.hid awake_any
  have HE0 := Lib.hid (fun W (hW : Below w.heap.size w W) => encode_any W A0 c0 cs P Q x (Kd.C_below h0 hW) k0 E0)
  have HE1 := Lib.hid (fun W (hW : Below w.heap.size w W) => encode_any W A1 c1 ds X Y y (Kd.C_below h1 hW) k1 E1)
  clear h0 h1 E0 E1
  rw [II_len, II_len] at *
  go_enter Try.func4, Try.ntmps4
  go_wp2_with (fail)
  refine (HEA.out _).mono ?_
  rintro e w1 ⟨rfl, hb1⟩
  have HB1 := Lib.hid hb1
  clear hb1 HEA
  go_wp2_with (fail)
  refine (HE0.out _ HB1.out).mono ?_
  rintro e w2 ⟨v0, v1, rfl, hp, hq, hb2⟩
  obtain ⟨ap, cp, rfl, _, _⟩ := hp.form
  have HB2 := Lib.hid (HB1.out.trans (hb2.mono HB1.out.size))
  clear hp hq hb2 HB1 HE0
  go_wp2_with (fail)
  refine (HE1.out _ HB2.out).mono ?_
  rintro e w3 ⟨v2, v3, rfl, hx', hy', hb3⟩
  obtain ⟨ax, cx, rfl, _, _⟩ := hx'.form
  have HB3 := Lib.hid (HB2.out.trans (hb3.mono HB2.out.size))
  clear hx' hy' hb3 HE1
  rw [I_len, I_len]
  rcases hx with rfl | rfl
  · have hpp : 0 < P.length := by rcases hpos with h | h; exact absurd rfl h; exact h
    have hppI : (0 : Int) < (P.length : Int) := by omega
    rcases hy with rfl | rfl
    · by_cases hlen : cs.length = ds.length
      · have hpx : P.length ≠ X.length := by
          rcases hbad with h | h | h | h
          · exact absurd rfl h
          · exact absurd rfl h
          · exact absurd hlen h
          · exact h
        rw [← hlen]
        have q1 : ((P.length : Int) == (X.length : Int)) = false := bF (by omega)
        have q2 : ((P.length : Int) != (X.length : Int)) = true := by simp only [bne, q1]; rfl
        have q3 : ¬ ((P.length : Int) = (X.length : Int)) := by omega
        clear hbad hpos
        go_wp2_with (fail)
        go_ret
        exact ⟨rfl, HB3.out⟩
      · have q1 : ((cs.length : Int) == (ds.length : Int)) = false := bF (by omega)
        have q2 : ((cs.length : Int) != (ds.length : Int)) = true := by simp only [bne, q1]; rfl
        have q3 : ¬ ((cs.length : Int) = (ds.length : Int)) := by omega
        clear hbad hpos
        go_wp2_with (fail)
        go_ret
        exact ⟨rfl, HB3.out⟩
    · clear hbad hpos
      go_wp2_with (fail)
      go_ret
      exact ⟨rfl, HB3.out⟩
  · clear hbad hpos
    go_wp2_with (fail)
    go_ret
    exact ⟨rfl, HB3.out⟩
end Go.Proofs.Ythjodjfjeamilaa.Wd
