/- The document's lock table: Ask, Free, Leave, Those; SameInts. -/
import Derived.Test.YtgegkebbbpapiaaPl1
namespace Go.Proofs.Ytgegkebbbpapiaa.Dlm
open Go.RowKit
set_option linter.unusedVariables false
def askOk (o l h : Int) : Prop := 0 ≤ o ∧ o ≤ 15 ∧ 0 ≤ l ∧ l ≤ h
instance (o l h : Int) : Decidable (askOk o l h) := by unfold askOk; infer_instance
def aN (ts : List Tk) (o l h : Int) : Int := if askOk o l h ∧ ts.length < 256 then ts.length else 0
def aE (ts : List Tk) (o l h : Int) : Int := if askOk o l h then (if ts.length < 256 then 0 else 14) else 2
def aT (ts : List Tk) (o l h : Int) (al : Bool) : List Tk := if askOk o l h ∧ ts.length < 256 then ts ++ [⟨o, l, h, al, false⟩] else ts
set_option maxRecDepth 100000 in
theorem rask_ok (base : Nat) (v : Value) (o l h : Int) (al : Bool) (w : World) (ts : List Tk) (hT : RR w base v ts) (hl : ts.length < 256) (h1 : 0 ≤ o) (h2 : o ≤ 15) (h3 : 0 ≤ l) (h4 : l ≤ h) :
    Calls Try.prog 18 #[v, .int .i64 o, .int .i64 l, .int .i64 h, .bool al] w fun e w' => ∃ v', e = .returned (.tuple #[.int .i64 (ts.length : Int), .int .i64 0, v']) ∧ RR w' w.heap.size v' (ts ++ [⟨o, l, h, al, false⟩]) ∧ Below w.heap.size w w' := by
  obtain ⟨i0, hi0, hz0, hz1, hz2⟩ := info_parts info65
  have HT := Lib.hid hT
  obtain ⟨A, cap, rfl, _, _⟩ := RR.form hT
  clear hT
  have B1 : Below w.heap.size w (w.alloc (.cells #[] 65)) := (Below.refl _ _).alloc (Nat.le_refl _) _
  have HB1 := Lib.hid B1
  have O1 : (w.alloc (.cells #[] 65)).ownsRow w.heap.size 65 5 (.slice (some ⟨w.heap.size, 0, none⟩) 0 0) 0 [] := World.ownsRow_lit w #[] 0 (Nat.le_refl _) (by unfold maxLen; omega) rfl
  have R1 := run_copy (w.alloc (.cells #[] 65)) w.heap.size base _ 0 [] _ ts O1 (HT.out.below HB1.out) (by omega) (by simp)
  rw [Nat.zero_add, List.nil_append] at R1
  obtain ⟨v1, w1, hr1, hown1, hg1⟩ := R1
  have HR1 := Lib.hid hr1
  have HO1 := Lib.hid hown1
  have HG1 := Lib.hid (HB1.out.grown hg1 (by simp) (fun q hq => by simp [Value.ownBlock] at hq; omega))
  have hs1 := HG1.out.size
  clear B1 O1 hr1 hown1 hg1
  generalize hln : ts.length = len at *
  have HLN := Lib.hid hln
  clear hln
  go_enter Try.func18, Try.ntmps18
  go_wp2_with (first
    | (at_builtin; refine wpList_append_ran rfl (.tmp 34) (.tmp 35) 45 rfl _ _ rfl rfl v1 w1 HR1.out ?_)
    | (at_builtin; refine wpList_append_own_at _ rfl (.tmp 39) (.tmp 45) 45 rfl w.heap.size 65 i0 _ 5 32 Try.underlying45 hi0 hz0 hz1 hz2 rfl (by omega) v1 len (tks ts) rfl (HO1.out.alloc _) ⟨w1.heap.size, 0, none⟩ 1 1 (Tk.cells ⟨o, l, h, al, false⟩) rfl rfl (cells_new w1 (Tk.cells ⟨o, l, h, al, false⟩) 65) (cells_one _) (by unfold maxLen; omega) (by omega) (by simp; omega) ?_; intro v' w2 hown2 hg2 _ hat; have HO2 := Lib.hid hown2; have HG2 := Lib.hid hg2; clear hown2 hg2 hat))
  go_ret3
  refine ⟨_, rfl, ?_, ?_⟩
  · unfold RR
    rw [tks_append, show tks [(⟨o, l, h, al, false⟩ : Tk)] = Tk.cells ⟨o, l, h, al, false⟩ from by simp [tks]]
    have hx : (ts ++ [(⟨o, l, h, al, false⟩ : Tk)]).length = ts.length + 1 := by simp
    rw [hx, HLN.out]
    exact HO2.out
  · exact (HG1.out.alloc hs1 _).grown HG2.out (by simp; omega) (fun q hq => (HO1.out.lt q hq).1)
set_option maxRecDepth 100000 in
theorem rask_no (base : Nat) (v : Value) (o l h : Int) (al : Bool) (w : World) (ts : List Tk) (hT : RR w base v ts) (hn : ¬ (askOk o l h ∧ ts.length < 256)) :
    Calls Try.prog 18 #[v, .int .i64 o, .int .i64 l, .int .i64 h, .bool al] w fun e w' => e = .returned (.tuple #[.int .i64 0, .int .i64 (aE ts o l h), v]) ∧ w' = w := by
  obtain ⟨A, cap, rfl, _, _⟩ := RR.form hT
  clear hT
  by_cases c1 : o < 0
  · have he : aE ts o l h = 2 := by unfold aE; exact if_neg (fun c => by obtain ⟨x1, x2, x3, x4⟩ := c; omega)
    have HE := Lib.hid he
    clear hn he
    go_enter Try.func18, Try.ntmps18
    go_wp2
    go_ret3
    exact ⟨by rw [HE.out]; rfl, rfl⟩
  by_cases c2 : 15 < o
  · have he : aE ts o l h = 2 := by unfold aE; exact if_neg (fun c => by obtain ⟨x1, x2, x3, x4⟩ := c; omega)
    have HE := Lib.hid he
    have c1' : decide (o < 0) = false := decide_eq_false c1
    clear hn he c1
    go_enter Try.func18, Try.ntmps18
    go_wp2
    go_ret3
    exact ⟨by rw [HE.out]; rfl, rfl⟩
  by_cases c3 : l < 0
  · have he : aE ts o l h = 2 := by unfold aE; exact if_neg (fun c => by obtain ⟨x1, x2, x3, x4⟩ := c; omega)
    have HE := Lib.hid he
    have c1' : decide (o < 0) = false := decide_eq_false c1
    have c2' : decide (15 < o) = false := decide_eq_false c2
    clear hn he c1 c2
    go_enter Try.func18, Try.ntmps18
    go_wp2
    go_ret3
    exact ⟨by rw [HE.out]; rfl, rfl⟩
  by_cases c4 : h < l
  · have he : aE ts o l h = 2 := by unfold aE; exact if_neg (fun c => by obtain ⟨x1, x2, x3, x4⟩ := c; omega)
    have HE := Lib.hid he
    have c1' : decide (o < 0) = false := decide_eq_false c1
    have c2' : decide (15 < o) = false := decide_eq_false c2
    have c3' : decide (l < 0) = false := decide_eq_false c3
    clear hn he c1 c2 c3
    go_enter Try.func18, Try.ntmps18
    go_wp2
    go_ret3
    exact ⟨by rw [HE.out]; rfl, rfl⟩
  have hok : askOk o l h := ⟨by omega, by omega, by omega, by omega⟩
  have hf : 256 ≤ ts.length := Nat.le_of_not_lt fun c => hn ⟨hok, c⟩
  have he : aE ts o l h = 14 := by unfold aE; rw [if_pos hok, if_neg (by omega)]
  have HE := Lib.hid he
  have c1' : decide (o < 0) = false := decide_eq_false c1
  have c2' : decide (15 < o) = false := decide_eq_false c2
  have c3' : decide (l < 0) = false := decide_eq_false c3
  have c4' : decide (h < l) = false := decide_eq_false c4
  have hf2 : (256 : Int) ≤ (ts.length : Int) := by omega
  clear hn he hok c1 c2 c3 c4
  generalize ts.length = len at *
  go_enter Try.func18, Try.ntmps18
  go_wp2
  go_ret3
  exact ⟨by rw [HE.out]; rfl, rfl⟩
theorem rask_any (base : Nat) (v : Value) (o l h : Int) (al : Bool) (w : World) (ts : List Tk) (hT : RR w base v ts) (hb : base ≤ w.heap.size) :
    Calls Try.prog 18 #[v, .int .i64 o, .int .i64 l, .int .i64 h, .bool al] w fun e w' => ∃ v', e = .returned (.tuple #[.int .i64 (aN ts o l h), .int .i64 (aE ts o l h), v']) ∧ RR w' base v' (aT ts o l h al) ∧ Below w.heap.size w w' := by
  by_cases hc : askOk o l h ∧ ts.length < 256
  · have e1 : aN ts o l h = ts.length := if_pos hc
    have e2 : aE ts o l h = 0 := by unfold aE; rw [if_pos hc.1, if_pos hc.2]
    have e3 : aT ts o l h al = ts ++ [⟨o, l, h, al, false⟩] := if_pos hc
    rw [e1, e2, e3]
    refine (rask_ok base v o l h al w ts hT hc.2 hc.1.1 hc.1.2.1 hc.1.2.2.1 hc.1.2.2.2).mono fun e w' ⟨v', h1, h2, h3⟩ => ⟨v', h1, own_lower h2 hb, h3⟩
  · have e1 : aN ts o l h = 0 := if_neg hc
    have e3 : aT ts o l h al = ts := if_neg hc
    rw [e1, e3]
    exact (rask_no base v o l h al w ts hT hc).mono fun e w' ⟨h1, h2⟩ => ⟨v, h1, by rw [h2]; exact hT, by rw [h2]; exact Below.refl _ _⟩
end Go.Proofs.Ytgegkebbbpapiaa.Dlm
