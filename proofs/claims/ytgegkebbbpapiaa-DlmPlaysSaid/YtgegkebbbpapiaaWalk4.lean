/- The walks of awake and of DlmNil. -/
import Derived.Test.YtgegkebbbpapiaaWalk3
namespace Go.Proofs.Ytgegkebbbpapiaa.Dlm
open Go.RowKit
/-- Two rows of different element types share no block; nor a row and a block of another type. -/
theorem own_ne {w : World} {b1 b2 : Nat} {e1 e2 : TypeId} {s1 s2 : Nat} {v1 v2 : Value} {n1 n2 : Nat} {x1 x2 : List Value} (h1 : w.ownsRow b1 e1 s1 v1 n1 x1) (h2 : w.ownsRow b2 e2 s2 v2 n2 x2) (hne : e1 ≠ e2) : ∀ k, v1.ownBlock = some k → v2.ownBlock ≠ some k := by
  intro k hk1 hk2
  rcases h1.2 with ⟨rfl, _⟩ | ⟨g1, c1, cur1, rfl, _, hh1, _⟩
  · simp [Value.ownBlock] at hk1
  rcases h2.2 with ⟨rfl, _⟩ | ⟨g2, c2, cur2, rfl, _, hh2, _⟩
  · simp [Value.ownBlock] at hk2
  simp only [Value.ownBlock, Option.some.injEq] at hk1 hk2
  subst hk1; subst hk2
  rw [hh1] at hh2
  injection hh2 with hh2
  injection hh2 with _ ht
  exact hne ht
theorem own_blk {w : World} {b1 : Nat} {e1 e2 : TypeId} {s1 : Nat} {v1 : Value} {n1 : Nat} {x1 : List Value} {g : Nat} {cs : Array Value} (h1 : w.ownsRow b1 e1 s1 v1 n1 x1) (h2 : w.heap[g]? = some (.cells cs e2 (0, 0))) (hne : e1 ≠ e2) : v1.ownBlock ≠ some g := by
  intro hk1
  rcases h1.2 with ⟨rfl, _⟩ | ⟨g1, c1, cur1, rfl, _, hh1, _⟩
  · simp [Value.ownBlock] at hk1
  simp only [Value.ownBlock, Option.some.injEq] at hk1
  subst hk1
  rw [hh1] at h2
  injection h2 with h2
  injection h2 with _ ht
  exact hne ht
theorem awake_any (w : World) : Calls Try.prog 9 #[] w fun e w' => e = .returned (.bool true) ∧ Below w.heap.size w w' := by
  go_enter Try.func9, Try.ntmps9
  go_wp2_with (fail)
  refine (new_any _).mono ?_
  rintro e w0 ⟨rfl, rfl⟩
  have hT0 := tab_new w
  have hB0 : Below w.heap.size w (w.alloc (.cells #[.slice none 0 0] 57)) := (Below.refl _ _).alloc (Nat.le_refl _) _
  generalize w.alloc (.cells #[.slice none 0 0] 57) = w0 at *
  have H0 := Lib.hid hT0
  have HB0 := Lib.hid hB0
  clear hT0 hB0
  go_wp2_with (fail)
  refine (Ask_ok w.heap.size _ 0 0 3 false w0 [] H0.out (by simp) (by omega) (by omega) (by omega) (by omega)).mono ?_
  rintro e w1 ⟨rfl, v1, hT1, hO1, _⟩
  have H1 := Lib.hid hT1
  have HO1 := Lib.hid (Only.below HB0.out hO1 HB0.out.size (by simp [Value.ownBlock]))
  clear hT1 hO1
  go_wp2_with (fail)
  refine (Ask_ok w.heap.size _ 1 3 5 true w1 _ H1.out (by simp) (by omega) (by omega) (by omega) (by omega)).mono ?_
  rintro e w2 ⟨rfl, v2, hT2, hO2, _⟩
  have H2 := Lib.hid hT2
  have HO2 := Lib.hid (Only.below HO1.out hO2 HO1.out.size (by
    intro x hx
    simp only [List.mem_cons, Option.mem_toList] at hx
    rcases hx with rfl | hx
    · exact Nat.le_refl _
    · have := (H1.out.2.lt x hx).1; omega))
  clear hT2 hO2
  go_wp2_with (fail)
  refine (State_ok w.heap.size _ 1 w2 _ H2.out (by simp) (by simp)).mono ?_
  rintro e w3 ⟨rfl, hB3⟩
  have hs : stOf ([] ++ [⟨0, 0, 3, false, false⟩] ++ [⟨1, 3, 5, true, false⟩]) 1 = 1 := by decide
  rw [hs]
  have HB3 := Lib.hid (HO2.out.trans (hB3.mono HO2.out.size))
  clear hB3 hs
  go_wp2_with (fail)
  go_ret
  exact ⟨rfl, HB3.out⟩
theorem DlmNil_walk (n lo hi : Int) (alone : Bool) (w : World) : Calls Try.prog 8 #[.int .i64 n, .int .i64 lo, .int .i64 hi, .bool alone] w fun e w' => e = .returned (.bool true) ∧ Below w.heap.size w w' := by
  go_enter Try.func8, Try.ntmps8
  go_wp2_with (fail)
  refine (Ask_nil _ _ _ _ _).mono ?_
  rintro e w0 ⟨rfl, rfl⟩
  go_wp2_with (fail)
  refine (State_nil _ _).mono ?_
  rintro e w0 ⟨rfl, rfl⟩
  go_wp2_with (fail)
  refine (Leave_nil _ _).mono ?_
  rintro e w0 ⟨rfl, rfl⟩
  go_wp2_with (fail)
  refine (awake_any _).mono ?_
  rintro e w1 ⟨rfl, hb1⟩
  go_wp2_with (fail)
  refine (Free_nil _ _).mono ?_
  rintro e w2 ⟨rfl, rfl⟩
  go_wp2_with (fail)
  refine (Granted_nil _).mono ?_
  rintro e w2 ⟨rfl, hb2⟩
  go_wp2_with (fail)
  refine (Waiting_nil _).mono ?_
  rintro e w3 ⟨rfl, hb3⟩
  go_wp2_with (fail)
  go_ret
  exact ⟨rfl, (hb1.trans (hb2.mono hb1.size)).trans (hb3.mono (Nat.le_trans hb1.size hb2.size))⟩
end Go.Proofs.Ytgegkebbbpapiaa.Dlm
