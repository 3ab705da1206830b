/- sync.Once over a field: the first time, and done already; and Mul. -/
import Derived.Test.YtpmhoocigdkhbaaFl1
namespace Go.Proofs.Ytpmhoocigdkhbaa.Fl
open Go.RowKit Go.Proofs.Ytpmhoocigdkhbaa.Wd Go.Proofs.Ytpmhoocigdkhbaa.WalkLaws Go.Proofs.Ytpmhoocigdkhbaa.Sy
set_option linter.unusedVariables false
set_option maxRecDepth 100000 in
set_option maxHeartbeats 1600000 in
theorem slow_any (g : Nat) (ex lg : Nat → Nat) (w : World) (h : HasF w g 0 0 0 ex lg) :
    Calls Try.prog 37 #[.pointer (some ⟨g, 0, none⟩), .func (.func 34) #[.pointer (some ⟨g, 0, none⟩)] #[]] w fun e w' => e = .returned (.tuple #[]) ∧ Only [g] w w' ∧ ∃ ex' lg', HasF w' g 1 0 1 ex' lg' ∧ G ex' lg' := by
  have H1 := Lib.hid (h.set1 1)
  have O1 := Lib.hid (Only.set (p := ⟨g, 1, none⟩) (w := w) (.int .i32 1))
  have HL := Lib.hid (lock_free ⟨g, 1, none⟩ w h.c1 (h.frz 1))
  generalize hw1 : w.setCell ⟨g, 1, none⟩ (.int .i32 1) = w1 at *
  have c0 := H1.out.c0
  have hl := run_call_load (P := Try.prog) Try.func39 (by kernel_rfl) (by kernel_rfl) (by kernel_rfl) .u32 (by kernel_rfl) c0
  have HT := Lib.hid (tables_any g 0 1 ex lg w1 H1.out)
  have hnot : ∀ (x : Bool) (w : World), (Op.unary .not (.bool x)).run Try.prog w = .ok (.bool (!x)) w := fun _ _ => rfl
  clear h
  go_enter_defers Try.func37, Try.ntmps37
  go_wp2_with (fail)
  refine HL.out.mono ?_
  rintro e w' ⟨rfl, rfl⟩
  go_wp2_with (go_at_call 36; go_in)
  refine HT.out.mono ?_
  rintro e w2 ⟨rfl, ho, ex', lg', hF, hG⟩
  have HF := Lib.hid hF
  have HG := Lib.hid hG
  have HO := Lib.hid ho
  clear hF hG ho
  have hF2 := (HF.out.below (belowN (Below.refl _ _) 1)).set0 1
  have HF3 := Lib.hid (hF2.set1 0)
  go_wp2_with (fail)
  -- the door: two deferred calls, the last laid first
  refine leaves_cons (f := 42) (args := #[.pointer (some ⟨g, 0, none⟩), .bool true]) (by simp) (by simp [go_sem]) ?_
  refine (store_deferred ⟨g, 0, none⟩ _ .returning _ HF.out.c0 (HF.out.frz 0)).mono ?_
  rintro e u' w'' ⟨rfl, rfl, rfl⟩
  refine leaves_cons (f := 41) (args := #[.pointer (some ⟨g, 1, none⟩)]) (by simp [settle]) (by simp [go_sem]) ?_
  refine (unlock_deferred ⟨g, 1, none⟩ _ _ hF2.c1 (hF2.frz 1)).mono ?_
  rintro e u' w'' ⟨rfl, rfl, rfl⟩
  have hO := (O1.out.trans HO.out (by simp)).trans (((Only.of_below (belowN (Below.refl _ _) 1) [g]).trans (Only.set (p := ⟨g, 0, none⟩) (.int .u32 1)) (by simp)).trans (Only.set (p := ⟨g, 1, none⟩) (.int .i32 0)) (by simp)) (by simp)
  have h3 := HF3.out
  have hG := HG.out
  clear HG HF hF2 HT HO H1 O1 HL HF3 hl c0
  simp [Leaves, settle, results, Try.results37]
  exact ⟨hO, ex', lg', h3, hG⟩
set_option maxRecDepth 100000 in
set_option maxHeartbeats 1600000 in
theorem do_first (g : Nat) (ex lg : Nat → Nat) (w : World) (h : HasF w g 0 0 0 ex lg) :
    Calls Try.prog 33 #[.pointer (some ⟨g, 0, none⟩), .func (.func 34) #[.pointer (some ⟨g, 0, none⟩)] #[]] w fun e w' => e = .returned (.tuple #[]) ∧ Only [g] w w' ∧ ∃ ex' lg', HasF w' g 1 0 1 ex' lg' ∧ G ex' lg' := by
  have hl := run_call_load (P := Try.prog) Try.func39 (by kernel_rfl) (by kernel_rfl) (by kernel_rfl) .u32 (by kernel_rfl) h.c0
  have HS := Lib.hid (slow_any g ex lg w h)
  have hnot : ∀ (x : Bool) (w : World), (Op.unary .not (.bool x)).run Try.prog w = .ok (.bool (!x)) w := fun _ _ => rfl
  clear h
  go_enter Try.func33, Try.ntmps33
  go_wp2_with (go_at_call 36; go_in)
  refine HS.out.mono ?_
  rintro e w' ⟨rfl, hr⟩
  have HR := Lib.hid hr
  clear hr
  go_wp2_with (fail)
  go_end0
  exact ⟨rfl, HR.out⟩
set_option maxRecDepth 100000 in
theorem do_done (a : Addr) (fv : Value) (w : World) (h0 : w.cell? a = some (.int .u32 1)) :
    Calls Try.prog 33 #[.pointer (some a), fv] w fun e w' => e = .returned (.tuple #[]) ∧ w' = w := by
  have hl := run_call_load (P := Try.prog) Try.func39 (by kernel_rfl) (by kernel_rfl) (by kernel_rfl) .u32 (by kernel_rfl) h0
  have hnot : ∀ (x : Bool) (w : World), (Op.unary .not (.bool x)).run Try.prog w = .ok (.bool (!x)) w := fun _ _ => rfl
  go_enter Try.func33, Try.ntmps33
  go_wp2
  go_end0
  exact ⟨rfl, rfl⟩
/-- A field as it lies: not yet asked, or asked and whole. -/
def Fd (w : World) (g : Nat) (m : Int) : Prop := (m = 0 ∧ ∃ ex lg, HasF w g 0 0 0 ex lg) ∨ (m = 1 ∧ ∃ ex lg, HasF w g 1 0 1 ex lg ∧ G ex lg)
theorem Fd.lt {w : World} {g : Nat} {m : Int} (h : Fd w g m) : g < w.heap.size := by
  rcases h with ⟨_, ex, lg, h⟩ | ⟨_, ex, lg, h, hG⟩ <;> exact h.lt
theorem Fd.below {w w' : World} {g : Nat} {m : Int} (h : Fd w g m) (hb : Below w.heap.size w w') : Fd w' g m := by
  rcases h with ⟨e, ex, lg, h⟩ | ⟨e, ex, lg, h, hG⟩
  · exact .inl ⟨e, ex, lg, h.below hb⟩
  · exact .inr ⟨e, ex, lg, h.below hb, hG⟩
theorem Fd.drew {w w' : World} {g : Nat} {m : Int} (h : Only [g] w w' ∧ Fd w' g m) : Only [g] w w'.drew ∧ Fd w'.drew g m :=
  ⟨h.1.trans (Only.of_below (belowN (Below.refl _ _) 1) []) (by simp), h.2.below (belowN (Below.refl _ _) 1)⟩
theorem Fd.made {w : World} {g : Nat} {m : Int} (h : Fd w g m) : w.cell? ⟨g, 3, none⟩ = some (.int .i64 m) := by
  rcases h with ⟨e, ex, lg, h⟩ | ⟨e, ex, lg, h, hG⟩ <;> (subst e; exact h.c3)
theorem Fd.new (w : World) : Fd (w.alloc (.cells F0 65)) w.heap.size 0 := .inl ⟨rfl, _, _, new_has w⟩
theorem do_any (g : Nat) (m : Int) (w : World) (h : Fd w g m) :
    Calls Try.prog 33 #[.pointer (some ⟨g, 0, none⟩), .func (.func 34) #[.pointer (some ⟨g, 0, none⟩)] #[]] w fun e w' => e = .returned (.tuple #[]) ∧ Only [g] w w' ∧ ∃ ex' lg', HasF w' g 1 0 1 ex' lg' ∧ G ex' lg' := by
  rcases h with ⟨_, ex, lg, h⟩ | ⟨_, ex, lg, h, hG⟩
  · exact do_first g ex lg w h
  · refine (do_done _ _ w h.c0).mono ?_
    rintro e w' ⟨rfl, rfl⟩
    exact ⟨rfl, Only.refl _ _, ex, lg, h, hG⟩
set_option maxRecDepth 100000 in
theorem mul_nil (a b : Int) (w : World) : Calls Try.prog 28 #[.pointer none, .int .u8 a, .int .u8 b] w fun e w' => e = .returned (.int .u8 0) ∧ w' = w := by
  go_enter Try.func28, Try.ntmps28
  go_wp2_with (fail)
  go_ret
  exact ⟨rfl, rfl⟩
set_option maxRecDepth 100000 in
theorem mul_any (g : Nat) (m : Int) (a b : Nat) (w : World) (h : Fd w g m) (ha : a < 256) (hb : b < 256) :
    Calls Try.prog 28 #[.pointer (some ⟨g, 0, none⟩), .int .u8 (a : Int), .int .u8 (b : Int)] w fun e w' => e = .returned (.int .u8 ((Math.mul a b : Nat) : Int)) ∧ Only [g] w w' ∧ Fd w' g 1 := by
  have HD := Lib.hid (do_any g m w h)
  clear h
  by_cases h0 : a = 0
  · subst h0
    have e1 : Math.mul 0 b = 0 := Math.zero_mul b
    rw [e1]
    go_enter Try.func28, Try.ntmps28
    go_wp2_with (fail)
    refine HD.out.mono ?_
    rintro e w' ⟨rfl, ho, ex', lg', hF, hG⟩
    have HR := Lib.hid (show Only [g] w w' ∧ Fd w' g 1 from ⟨ho, .inr ⟨rfl, _, _, hF, hG⟩⟩)
    clear ho hF hG
    go_wp2_with (fail)
    go_ret
    exact ⟨rfl, HR.out⟩
  · by_cases h1 : b = 0
    · subst h1
      have e1 : Math.mul a 0 = 0 := Math.mul_zero a
      have h0' : ¬ ((a : Int) = 0) := by omega
      have h0b : ((a : Int) == 0) = false := by simpa using h0
      rw [e1]
      go_enter Try.func28, Try.ntmps28
      go_wp2_with (fail)
      refine HD.out.mono ?_
      rintro e w' ⟨rfl, ho, ex', lg', hF, hG⟩
      have HR := Lib.hid (show Only [g] w w' ∧ Fd w' g 1 from ⟨ho, .inr ⟨rfl, _, _, hF, hG⟩⟩)
      clear ho hF hG
      go_wp2_with (fail)
      go_ret
      exact ⟨rfl, HR.out⟩
    · have h0' : ¬ ((a : Int) = 0) := by omega
      have h1' : ¬ ((b : Int) = 0) := by omega
      have h0b : ((a : Int) == 0) = false := by simpa using h0
      have h1b : ((b : Int) == 0) = false := by simpa using h1
      go_enter Try.func28, Try.ntmps28
      go_wp2_with (fail)
      refine HD.out.mono ?_
      rintro e w' ⟨rfl, ho, ex', lg', hF, hG⟩
      have HR := Lib.hid (show Only [g] w w' ∧ Fd w' g 1 from ⟨ho, .inr ⟨rfl, _, _, hF, hG⟩⟩)
      obtain ⟨hr, hm⟩ := hG.mul ha hb h0 h1
      have c1 := hF.cl (k := a) ha
      have c2 := hF.cl (k := b) hb
      have c3 := hF.cx (k := lg' a + lg' b) hr
      rw [hm] at c3
      have hla := (hG.2 a ha h0).1
      have hlb := (hG.2 b hb h1).1
      clear ho hF hG hm
      generalize lg' a = x at *
      generalize lg' b = y at *
      go_wp2_with (fail)
      go_region
      go_wp2_with (fail)
      go_ret
      exact ⟨rfl, Fd.drew HR.out⟩
end Go.Proofs.Ytpmhoocigdkhbaa.Fl
