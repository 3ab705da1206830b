/- The walk of tables: both tables are laid. -/
import Derived.Test.YtpmhoocigdkhbaaFl0
import Derived.Test.YtpmhoocigdkhbaaSyn
import Derived.Test.YtpmhoocigdkhbaaGfLawsWalk
namespace Go.Proofs.Ytpmhoocigdkhbaa.Fl
open Go.RowKit Go.Proofs.Ytpmhoocigdkhbaa.Wd Go.Proofs.Ytpmhoocigdkhbaa.WalkLaws
set_option linter.unusedVariables false
/-- What the tables hold once i rounds are done. -/
def T (i : Nat) (ex lg : Nat → Nat) : Prop := (∀ k, k < i → ex k = Math.e k ∧ ex (k + 255) = Math.e k) ∧ ∀ k, k < i → lg (Math.e k) < 255 ∧ Math.e (lg (Math.e k)) = Math.e k
theorem T.step {i : Nat} {ex lg : Nat → Nat} (h : T i ex lg) (hi : i < 255) :
    T (i + 1) (fun j => if j = i + 255 then Math.e i else if j = i then Math.e i else ex j) (fun j => if j = Math.e i then i else lg j) := by
  refine ⟨fun k hk => ⟨?_, ?_⟩, fun k hk => ?_⟩
  · by_cases he : k = i
    · subst he; simp
    · show (if k = i + 255 then Math.e i else if k = i then Math.e i else ex k) = _
      rw [if_neg (by omega), if_neg he]; exact (h.1 k (by omega)).1
  · by_cases he : k = i
    · subst he; simp
    · show (if k + 255 = i + 255 then Math.e i else if k + 255 = i then Math.e i else ex (k + 255)) = _
      rw [if_neg (by omega), if_neg (by omega)]; exact (h.1 k (by omega)).2
  · by_cases he : Math.e k = Math.e i
    · show (if Math.e k = Math.e i then i else lg (Math.e k)) < 255 ∧ Math.e (if Math.e k = Math.e i then i else lg (Math.e k)) = Math.e k
      rw [if_pos he]; exact ⟨hi, he.symm⟩
    · show (if Math.e k = Math.e i then i else lg (Math.e k)) < 255 ∧ Math.e (if Math.e k = Math.e i then i else lg (Math.e k)) = Math.e k
      rw [if_neg he]
      exact h.2 k (by rcases Nat.lt_succ_iff_lt_or_eq.1 hk with h1 | h1; exact h1; exact absurd (by rw [h1]) he)
/-- Tables that are whole. -/
def G (ex lg : Nat → Nat) : Prop := (∀ j, j < 510 → ex j = Math.e j) ∧ ∀ a, a < 256 → a ≠ 0 → lg a < 255 ∧ Math.e (lg a) = a
theorem T.whole {ex lg : Nat → Nat} (h : T 255 ex lg) : G ex lg := by
  refine ⟨fun j hj => ?_, fun a ha h0 => ?_⟩
  · by_cases h1 : j < 255
    · exact (h.1 j h1).1
    · have h2 := (h.1 (j - 255) (by omega)).2
      rw [show (j - 255) + 255 = j by omega] at h2
      rw [h2, Math.e_mod j, Math.e_mod (j - 255)]
      exact congrArg Math.e (by omega)
  · obtain ⟨k, hk, rfl⟩ := Math.log_ex a ha h0
    exact h.2 k hk
theorem G.mul {ex lg : Nat → Nat} (h : G ex lg) {a b : Nat} (ha : a < 256) (hb : b < 256) (h0 : a ≠ 0) (h1 : b ≠ 0) : lg a + lg b < 510 ∧ ex (lg a + lg b) = Math.mul a b := by
  have h2 := h.2 a ha h0
  have h3 := h.2 b hb h1
  exact ⟨by omega, by rw [h.1 _ (by omega), Math.e_add, h2.2, h3.2]⟩
theorem add_64 (a : Addr) (x : Int) (w : World) (hc : w.cell? a = some (.int .i64 x)) (hz : w.frozen? a = false) (hx : IntKind.i64.wrap (x + 1) = x + 1) : (callFunc 43 #[.pointer (some a), .int .i64 1]).run Try.prog w = .ok (.value (.int .i64 (x + 1))) (w.setCell a (.int .i64 (x + 1))) :=
  run_call_add (P := Try.prog) Try.func43 (by kernel_rfl) (by kernel_rfl) (by kernel_rfl) .i64 (by kernel_rfl) (y := 1) (s := x + 1) hc hz (by simp [go_sem, hx])
set_option maxRecDepth 100000 in
theorem add_any (g : Nat) (x : Int) (w : World) (hc : w.cell? ⟨g, 3, none⟩ = some (.int .i64 x)) (hz : w.frozen? ⟨g, 3, none⟩ = false) (hx : IntKind.i64.wrap (x + 1) = x + 1) :
    Calls Try.prog 38 #[.pointer (some ⟨g, 3, none⟩), .int .i64 1] w fun e w' => e = .returned (.int .i64 (x + 1)) ∧ w' = w.setCell ⟨g, 3, none⟩ (.int .i64 (x + 1)) := by
  have ha := add_64 ⟨g, 3, none⟩ x w hc hz hx
  go_enter Try.func38, Try.ntmps38
  go_wp2
  go_ret
  exact ⟨rfl, rfl⟩
set_option maxRecDepth 100000 in
theorem load_any (g : Nat) (x : Int) (w : World) (hc : w.cell? ⟨g, 3, none⟩ = some (.int .i64 x)) :
    Calls Try.prog 32 #[.pointer (some ⟨g, 3, none⟩)] w fun e w' => e = .returned (.int .i64 x) ∧ w' = w := by
  have hl := run_call_load (P := Try.prog) Try.func35 (by kernel_rfl) (by kernel_rfl) (by kernel_rfl) .i64 (by kernel_rfl) hc
  go_enter Try.func32, Try.ntmps32
  go_wp2
  go_ret
  exact ⟨rfl, rfl⟩
set_option maxRecDepth 100000 in
theorem made_any (g : Nat) (x : Int) (w : World) (hc : w.cell? ⟨g, 3, none⟩ = some (.int .i64 x)) :
    Calls Try.prog 27 #[.pointer (some ⟨g, 0, none⟩)] w fun e w' => e = .returned (.int .i64 x) ∧ w' = w := by
  have HL := Lib.hid (load_any g x w hc)
  go_enter Try.func27, Try.ntmps27
  go_wp2_with (fail)
  refine HL.out.mono ?_
  rintro e w' ⟨rfl, rfl⟩
  go_wp2_with (fail)
  go_ret
  exact ⟨rfl, rfl⟩
set_option maxRecDepth 100000 in
theorem made_nil (w : World) : Calls Try.prog 27 #[.pointer none] w fun e w' => e = .returned (.int .i64 0) ∧ w' = w := by
  go_enter Try.func27, Try.ntmps27
  go_wp2_with (fail)
  go_ret
  exact ⟨rfl, rfl⟩
set_option maxRecDepth 100000 in
theorem tables_any (g : Nat) (d l : Int) (ex lg : Nat → Nat) (w : World) (h : HasF w g d l 0 ex lg) :
    Calls Try.prog 34 #[.pointer (some ⟨g, 0, none⟩)] w fun e w' => e = .returned (.tuple #[]) ∧ Only [g] w w' ∧ ∃ ex' lg', HasF w' g d l 1 ex' lg' ∧ G ex' lg' := by
  have H0 := Lib.hid h
  have hg := h.lt
  clear h
  go_enter Try.func34, Try.ntmps34
  go_wp2_with (fail)
  obtain ⟨wi, hwi⟩ : ∃ wi : World, wi = w := ⟨_, rfl⟩
  go_loopg [2, 3, 4] (255) (fun q v2 v3 v4 wr => ∃ i : Nat, i ≤ 255 ∧ v2 = .int .u8 ((Math.e i : Nat) : Int) ∧ v4 = .int .i64 i ∧ q = 255 - i ∧ (∃ ex' lg', HasF wr g d l 0 ex' lg' ∧ T i ex' lg') ∧ Only [g] w wr)
  case atStart => exact ⟨0, by omega, rfl, rfl, rfl, ⟨_, _, H0.out, fun k hk => absurd hk (by omega), fun k hk => absurd hk (by omega)⟩, Only.refl _ _⟩
  case round =>
    obtain ⟨i, hi, rfl, rfl, hq, ⟨ex', lg', hF, hT⟩, ho⟩ := hrel
    have HQ := Lib.hid hq
    have HF := Lib.hid hF
    have HT := Lib.hid hT
    have HO := Lib.hid ho
    clear hq hF hT ho
    by_cases hlt : i < 255
    · have hx := Math.e_lt i
      have HM := Lib.hid (fun W => mul_q (Math.e i) 2 W hx (by omega))
      have hxs : Math.mul (Math.e i) 2 = Math.e (i + 1) := Math.mul_two _ hx
      rw [hxs] at HM
      generalize hX : Math.e i = x at *
      have f1 := HF.out.frz (4 + i)
      have f2 := HF.out.frz (4 + (i + 255))
      have f3 := HF.out.frz (514 + x)
      have c1 := HF.out.cx (k := i) (by omega)
      have h1 := HF.out.setx (i := i) (by omega) x
      have c2 := h1.cx (k := i + 255) (by omega)
      have f2 := h1.frz (4 + (i + 255))
      have h2 := h1.setx (i := i + 255) (by omega) x
      have c3 := h2.cl (k := x) hx
      have f3 := h2.frz (514 + x)
      go_wp2_with (fail)
      have HF3 := Lib.hid (h2.setl (i := x) hx i)
      have HO3 := Lib.hid (((Only.set (p := ⟨g, 4 + i, none⟩) (w := wr) (.int .u8 (x : Int))).trans (Only.set (p := ⟨g, 4 + (i + 255), none⟩) (.int .u8 (x : Int))) (by simp)).trans (Only.set (p := ⟨g, 514 + x, none⟩) (.int .i64 (i : Int))) (by simp))
      have HT3 := Lib.hid (HT.out.step hlt)
      rw [hX] at HT3
      clear h1 h2 hxs
      go_region
      go_wp2_with (fail)
      refine (HM.out _).mono ?_
      rintro e' w' ⟨rfl, ⟨n1, rfl⟩⟩
      go_wp2_with (fail)
      go_roundg (255 - (i + 1))
      exact ⟨i + 1, by omega, rfl, by simp, rfl, ⟨_, _, HF3.out.below (belowN (Below.refl _ _) _), HT3.out⟩, (HO.out.trans HO3.out (by simp)).trans (Only.of_below (belowN (Below.refl _ _) _) []) (by simp)⟩
      have := HQ.out; omega
    · obtain rfl : i = 255 := by omega
      have f1 := HF.out.frz 3
      have c1 := HF.out.c3
      have HA := Lib.hid (add_any g 0 wr c1 f1 (by decide))
      have HF3 := Lib.hid (HF.out.set3 1)
      have HO3 := Lib.hid (HO.out.trans (Only.set (p := ⟨g, 3, none⟩) (w := wr) (.int .i64 1)) (by simp))
      have HG := Lib.hid HT.out.whole
      go_wp2_with (fail)
      refine (HA.out).mono ?_
      rintro e' w' ⟨rfl, rfl⟩
      go_wp2_with (fail)
      go_end0
      exact ⟨rfl, HO3.out, _, _, HF3.out, HG.out⟩
end Go.Proofs.Ytpmhoocigdkhbaa.Fl
