/- ParitySums, for every two lists of columns. -/
import Derived.Test.YthjodjfjeamilaaSmE
import Derived.Test.YthjodjfjeamilaaSmW
set_option linter.unusedVariables false
set_option linter.unusedSimpArgs false
namespace Go.Proofs.Ythjodjfjeamilaa.Wd
open Go Go.RowKit Go.Proofs.YthjodjfjeamilaaW.PrintWords Go.Proofs.YthjodjfjeamilaaW.PrintLast Go.Proofs.YthjodjfjeamilaaW.PrintMore Go.Proofs.Ythjodjfjeamilaa.Bridge Go.Proofs.Ythjodjfjeamilaa.PA Go.Proofs.Ythjodjfjeamilaa.PB Go.Proofs.Ythjodjfjeamilaa.BrPA Go.Proofs.Ythjodjfjeamilaa.Pur
theorem sums_all (A0 : Option Addr) (c0 : Nat) (cs : List (List Nat)) (A1 : Option Addr) (c1 : Nat) (ds : List (List Nat)) (w : World) (h0 : Kd.C (Kd.slice 5 (Kd.int .u8)) w A0 (II cs).length (II cs)) (k0 : (II cs).length ≤ c0) (h1 : Kd.C (Kd.slice 5 (Kd.int .u8)) w A1 (II ds).length (II ds)) (k1 : (II ds).length ≤ c1) (b0 : Bytt cs) (b1 : Bytt ds) :
    Calls Try.prog 4 #[.slice A0 (II cs).length c0, .slice A1 (II ds).length c1] w fun e w' => e = .returned (.bool true) ∧ Below w.heap.size w w' := by
  by_cases g0 : ∃ n, Pur.Good cs n
  · obtain ⟨n, g0⟩ := g0
    have hn := g0.snd.pos
    by_cases g1 : ∃ m, Pur.Good ds m
    · obtain ⟨m, g1⟩ := g1
      by_cases hl : cs.length = ds.length
      · by_cases hnm : n = m
        · subst hnm
          exact sums_good w A0 c0 cs A1 c1 ds n h0 k0 h1 k1 b0 b1 g0 g1 hl
        · exact sums_early w A0 c0 cs A1 c1 ds _ _ _ _ 0 0 h0 k0 h1 k1 (encode_ok cs n b0 g0) (encode_ok ds m b1 g1) (.inl rfl) (.inl rfl) (.inr (.inr (.inr (by rw [tab_len, tab_len]; exact hnm)))) (.inr (by rw [tab_len]; omega))
      · exact sums_early w A0 c0 cs A1 c1 ds _ _ _ _ 0 0 h0 k0 h1 k1 (encode_ok cs n b0 g0) (encode_ok ds m b1 g1) (.inl rfl) (.inl rfl) (.inr (.inr (.inl hl))) (.inr (by rw [tab_len]; omega))
    · exact sums_early w A0 c0 cs A1 c1 ds _ _ [] [] 0 1 h0 k0 h1 k1 (encode_ok cs n b0 g0) (encode_bad ds fun m h => g1 ⟨m, h⟩) (.inl rfl) (.inr rfl) (.inr (.inl (by decide))) (.inr (by rw [tab_len]; omega))
  · have E0 := encode_bad cs fun m h => g0 ⟨m, h⟩
    by_cases g1 : ∃ m, Pur.Good ds m
    · obtain ⟨m, g1⟩ := g1
      exact sums_early w A0 c0 cs A1 c1 ds [] [] _ _ 1 0 h0 k0 h1 k1 E0 (encode_ok ds m b1 g1) (.inr rfl) (.inl rfl) (.inl (by decide)) (.inl (by decide))
    · exact sums_early w A0 c0 cs A1 c1 ds [] [] [] [] 1 1 h0 k0 h1 k1 E0 (encode_bad ds fun m h => g1 ⟨m, h⟩) (.inr rfl) (.inr rfl) (.inl (by decide)) (.inl (by decide))
end Go.Proofs.Ythjodjfjeamilaa.Wd
