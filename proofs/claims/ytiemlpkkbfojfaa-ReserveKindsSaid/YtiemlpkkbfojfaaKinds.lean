/- The walk of ReserveKinds: the law's body, and that it answers true. -/
import Derived.Test.YtiemlpkkbfojfaaDesk3
import Derived.Deep.DeepCutAuto
namespace Go.Proofs.Ytiemlpkkbfojfaa.Res
open Go.RowKit
set_option linter.unusedVariables false
/-- The desks that the law passes through. -/
def kd1 (h : Int) : Dk := Dk.new.reg h 9 false
def kd2 (h o : Int) (known : Bool) : Dk := if known then (kd1 h).reg o 5 false else kd1 h
def kd3 (h o : Int) (known : Bool) (k : Int) : Dk := (kd2 h o known).res h k
def kd4 (h o : Int) (known : Bool) (k : Int) : Dk := (kd3 h o known k).res h k
def kd5 (h o : Int) (known : Bool) (k : Int) : Dk := (kd4 h o known k).res h (k % 4 + 1)
def kd6 (h o : Int) (known : Bool) (k : Int) : Dk := (kd5 h o known k).res o k
def kd7 (h o : Int) (known : Bool) (k : Int) : Dk := (kd6 h o known k).rel o
def kd8 (h o : Int) (known : Bool) (k : Int) : Dk := (kd7 h o known k).rel h
def want (known : Bool) : Int := if known then 12 else 10
def mayK (k : Int) (known write : Bool) : Bool := (k == 1 && !write) || (k == 3 && (!write || known)) || (k == 4 && known)
def kindsB (x h o : Nat) (known write : Bool) : Bool :=
  decide ((kd2 h o known).resE h (x + 1) = 0) && (decide ((kd3 h o known (x + 1)).resE h (x + 1) = 0) && (decide ((kd4 h o known (x + 1)).resE h (((x : Int) + 1) % 4 + 1) = 12) &&
  (decide ((kd5 h o known (x + 1)).resE o (x + 1) = want known) && (decide ((kd6 h o known (x + 1)).relE o = want known) && (((kd7 h o known (x + 1)).may o write == mayK (x + 1) known write) &&
  ((kd7 h o known (x + 1)).may h write && (decide ((kd7 h o known (x + 1)).relE h = 0) && ((kd8 h o known (x + 1)).may o write && decide ((kd8 h o known (x + 1)).relE h = 0)))))))))
theorem kinds_all : ∀ x, x < 4 → ∀ h, h < 16 → ∀ o, o < 16 → h ≠ o → ∀ known write : Bool, kindsB x h o known write = true := by decide +kernel
theorem kinds_facts {x h o : Int} (known write : Bool) (x0 : 0 ≤ x) (x1 : x < 4) (h0 : 0 ≤ h) (h1 : h < 16) (o0 : 0 ≤ o) (o1 : o < 16) (hne : ¬ o = h) :
    (kd2 h o known).resE h (x + 1) = 0 ∧ (kd3 h o known (x + 1)).resE h (x + 1) = 0 ∧ (kd4 h o known (x + 1)).resE h ((x + 1) % 4 + 1) = 12 ∧ (kd5 h o known (x + 1)).resE o (x + 1) = want known ∧
    (kd6 h o known (x + 1)).relE o = want known ∧ (kd7 h o known (x + 1)).may o write = mayK (x + 1) known write ∧ (kd7 h o known (x + 1)).may h write = true ∧ (kd7 h o known (x + 1)).relE h = 0 ∧
    (kd8 h o known (x + 1)).may o write = true ∧ (kd8 h o known (x + 1)).relE h = 0 := by
  obtain ⟨xn, rfl⟩ := Int.eq_ofNat_of_zero_le x0
  obtain ⟨hn, rfl⟩ := Int.eq_ofNat_of_zero_le h0
  obtain ⟨on, rfl⟩ := Int.eq_ofNat_of_zero_le o0
  have h := kinds_all xn (by omega) hn (by omega) on (by omega) (by omega) known write
  simpa [kindsB, Bool.and_eq_true] using h
set_option maxRecDepth 100000 in
set_option maxHeartbeats 4000000 in
theorem kinds_walk (kn hn on : Nat) (known write : Bool) (w : World) (hk : kn < 256) (hh : hn < 256) (ho : on < 256) :
    Calls Try.prog 3 #[.int .u8 (kn : Int), .int .u8 (hn : Int), .int .u8 (on : Int), .bool known, .bool write] w fun e w' => e = .returned (.bool true) ∧ Below w.heap.size w w' := by
  have x0 : 0 ≤ (kn : Int) % 4 := by omega
  have x1 : (kn : Int) % 4 < 4 := by omega
  have h0 : 0 ≤ (hn : Int) % 16 := by omega
  have h1 : (hn : Int) % 16 < 16 := by omega
  have o0 : 0 ≤ (on : Int) % 16 := by omega
  have o1 : (on : Int) % 16 < 16 := by omega
  go_enter Try.func3, Try.ntmps3
  go_wp2_with (fail)
  generalize (kn : Int) % 4 = x at *
  generalize (hn : Int) % 16 = h at *
  generalize (on : Int) % 16 = o at *
  refine (new_any _).mono ?_
  rintro e w0 ⟨rfl, rfl⟩
  have hD0 := hasD_new w
  have hB0 : Below w.heap.size w (w.alloc (.cells Dk.new.cells 51)) := (Below.refl _ _).alloc (Nat.le_refl _) _
  generalize w.alloc (.cells Dk.new.cells 51) = w0 at *
  have H0 := Lib.hid hD0
  have HB0 := Lib.hid hB0
  clear hD0 hB0
  go_wp2_with (fail)
  refine (awake_any _).mono ?_
  rintro e w1 ⟨rfl, hb1⟩
  have H1 := Lib.hid (H0.out.kept (Only.of_below hb1 []) (by simp))
  have HB1 := Lib.hid (HB0.out.trans (hb1.mono (Nat.le_of_lt H0.out.lt)))
  clear hb1
  go_wp2_with (fail)
  refine (Register_any w.heap.size _ h 9 false _ H1.out).mono ?_
  rw [show Dk.new.regE h = 0 from by unfold Dk.regE; rw [if_pos ⟨h0, h1⟩]]
  rintro e w2 ⟨rfl, hd2, ho2⟩
  have H2 : Hid (HasD w2 w.heap.size (kd1 h)) := hd2
  have HB2 := Lib.hid (Only.below HB1.out ho2 (Nat.le_of_lt H1.out.lt) (by simp))
  clear hd2 ho2
  by_cases hne : o = h
  · have hneb := bT hne
    subst hne
    go_wp2_with (fail)
    go_ret
    exact ⟨rfl, HB2.out⟩
  have hneb := bF hne
  have FF := Lib.hid (kinds_facts known write x0 x1 h0 h1 o0 o1 hne)
  clear hne
  cases known
  · go_wp2_with (fail)
    replace H2 : Hid (HasD w2 w.heap.size (kd2 h o false)) := H2
    refine (Reserve_any w.heap.size _ h (x + 1) _ H2.out).mono ?_
    rw [FF.out.1]
    rintro e w4 ⟨rfl, hd4, ho4⟩
    have H4 : Hid (HasD w4 w.heap.size (kd3 h o false (x + 1))) := hd4
    have HB4 := Lib.hid (Only.below HB2.out ho4 (Nat.le_of_lt H2.out.lt) (by simp))
    clear hd4 ho4
    go_wp2_with (fail)
    refine (Reserve_any w.heap.size _ h (x + 1) _ H4.out).mono ?_
    rw [FF.out.2.1]
    rintro e w5 ⟨rfl, hd5, ho5⟩
    have H5 : Hid (HasD w5 w.heap.size (kd4 h o false (x + 1))) := hd5
    have HB5 := Lib.hid (Only.below HB4.out ho5 (Nat.le_of_lt H4.out.lt) (by simp))
    clear hd5 ho5
    go_wp2_with (fail)
    refine (Reserve_any w.heap.size _ h ((x + 1) % 4 + 1) _ H5.out).mono ?_
    rw [FF.out.2.2.1]
    rintro e w6 ⟨rfl, hd6, ho6⟩
    have H6 : Hid (HasD w6 w.heap.size (kd5 h o false (x + 1))) := hd6
    have HB6 := Lib.hid (Only.below HB5.out ho6 (Nat.le_of_lt H5.out.lt) (by simp))
    clear hd6 ho6
    have FO := Lib.hid FF.out.2.2.2
    clear FF
    go_upto_region 8 with (fail)
    go_cut [15] (fun v15 wx => v15 = .bool (mayK (x + 1) false write) ∧ w6 = wx)
    case first =>
      as_aux_lemma =>
        have hx : x = 0 ∨ x = 1 ∨ x = 2 ∨ x = 3 := by omega
        rcases hx with rfl | rfl | rfl | rfl <;> cases write
        all_goals (go_wp2_with (fail); go_meet; exact ⟨rfl, rfl⟩)
    case rest =>
      as_aux_lemma =>
        obtain ⟨rfl, rfl⟩ := hcut
        have hm := FO.out.2.2.1
        generalize mayK (x + 1) false write = my at *
        go_wp2_with (fail)
        refine (Reserve_any w.heap.size _ o (x + 1) _ H6.out).mono ?_
        rw [FO.out.1]
        rintro e w7 ⟨rfl, hd7, ho7⟩
        have H7 : Hid (HasD w7 w.heap.size (kd6 h o false (x + 1))) := hd7
        have HB7 := Lib.hid (Only.below HB6.out ho7 (Nat.le_of_lt H6.out.lt) (by simp))
        clear hd7 ho7
        go_wp2_with (fail)
        refine (Release_any w.heap.size _ o _ H7.out).mono ?_
        rw [FO.out.2.1]
        rintro e w8 ⟨rfl, hd8, ho8⟩
        have H8 : Hid (HasD w8 w.heap.size (kd7 h o false (x + 1))) := hd8
        have HB8 := Lib.hid (Only.below HB7.out ho8 (Nat.le_of_lt H7.out.lt) (by simp))
        clear hd8 ho8
        simp only [want, Bool.false_eq_true, if_false]
        go_wp2_with (fail)
        refine (May_any w.heap.size _ o write _ H8.out).mono ?_
        rw [hm]
        rintro e w9 ⟨rfl, rfl⟩
        have hmm : (my != my) = false := by simp
        clear hm
        go_wp2_with (fail)
        refine (May_any w.heap.size _ h write _ H8.out).mono ?_
        rw [FO.out.2.2.2.1]
        rintro e w9 ⟨rfl, rfl⟩
        go_wp2_with (fail)
        refine (Release_any w.heap.size _ h _ H8.out).mono ?_
        rw [FO.out.2.2.2.2.1]
        rintro e w9 ⟨rfl, hd9, ho9⟩
        have H9 : Hid (HasD w9 w.heap.size (kd8 h o false (x + 1))) := hd9
        have HB9 := Lib.hid (Only.below HB8.out ho9 (Nat.le_of_lt H8.out.lt) (by simp))
        clear hd9 ho9
        go_wp2_with (fail)
        refine (May_any w.heap.size _ o write _ H9.out).mono ?_
        rw [FO.out.2.2.2.2.2.1]
        rintro e w10 ⟨rfl, rfl⟩
        go_wp2_with (fail)
        refine (Release_any w.heap.size _ h _ H9.out).mono ?_
        rw [FO.out.2.2.2.2.2.2]
        rintro e w10 ⟨rfl, hd10, ho10⟩
        have HB10 := Lib.hid (Only.below HB9.out ho10 (Nat.le_of_lt H9.out.lt) (by simp))
        clear hd10 ho10
        go_wp2_with (fail)
        go_ret
        exact ⟨rfl, HB10.out⟩
  · go_wp2_with (fail)
    refine (Register_any w.heap.size _ o 5 false _ H2.out).mono ?_
    rw [show (kd1 h).regE o = 0 from by unfold Dk.regE; rw [if_pos ⟨o0, o1⟩]]
    rintro e w3 ⟨rfl, hd3, ho3⟩
    replace HB2 := Lib.hid (Only.below HB2.out ho3 (Nat.le_of_lt H2.out.lt) (by simp))
    replace H2 : Hid (HasD w3 w.heap.size (kd2 h o true)) := hd3
    clear hd3 ho3
    go_wp2_with (fail)
    refine (Reserve_any w.heap.size _ h (x + 1) _ H2.out).mono ?_
    rw [FF.out.1]
    rintro e w4 ⟨rfl, hd4, ho4⟩
    have H4 : Hid (HasD w4 w.heap.size (kd3 h o true (x + 1))) := hd4
    have HB4 := Lib.hid (Only.below HB2.out ho4 (Nat.le_of_lt H2.out.lt) (by simp))
    clear hd4 ho4
    go_wp2_with (fail)
    refine (Reserve_any w.heap.size _ h (x + 1) _ H4.out).mono ?_
    rw [FF.out.2.1]
    rintro e w5 ⟨rfl, hd5, ho5⟩
    have H5 : Hid (HasD w5 w.heap.size (kd4 h o true (x + 1))) := hd5
    have HB5 := Lib.hid (Only.below HB4.out ho5 (Nat.le_of_lt H4.out.lt) (by simp))
    clear hd5 ho5
    go_wp2_with (fail)
    refine (Reserve_any w.heap.size _ h ((x + 1) % 4 + 1) _ H5.out).mono ?_
    rw [FF.out.2.2.1]
    rintro e w6 ⟨rfl, hd6, ho6⟩
    have H6 : Hid (HasD w6 w.heap.size (kd5 h o true (x + 1))) := hd6
    have HB6 := Lib.hid (Only.below HB5.out ho6 (Nat.le_of_lt H5.out.lt) (by simp))
    clear hd6 ho6
    have FO := Lib.hid FF.out.2.2.2
    clear FF
    go_upto_region 8 with (fail)
    go_cut [15] (fun v15 wx => v15 = .bool (mayK (x + 1) true write) ∧ w6 = wx)
    case first =>
      as_aux_lemma =>
        have hx : x = 0 ∨ x = 1 ∨ x = 2 ∨ x = 3 := by omega
        rcases hx with rfl | rfl | rfl | rfl <;> cases write
        all_goals (go_wp2_with (fail); go_meet; exact ⟨rfl, rfl⟩)
    case rest =>
      as_aux_lemma =>
        obtain ⟨rfl, rfl⟩ := hcut
        have hm := FO.out.2.2.1
        generalize mayK (x + 1) true write = my at *
        go_wp2_with (fail)
        refine (Reserve_any w.heap.size _ o (x + 1) _ H6.out).mono ?_
        rw [FO.out.1]
        rintro e w7 ⟨rfl, hd7, ho7⟩
        have H7 : Hid (HasD w7 w.heap.size (kd6 h o true (x + 1))) := hd7
        have HB7 := Lib.hid (Only.below HB6.out ho7 (Nat.le_of_lt H6.out.lt) (by simp))
        clear hd7 ho7
        go_wp2_with (fail)
        refine (Release_any w.heap.size _ o _ H7.out).mono ?_
        rw [FO.out.2.1]
        rintro e w8 ⟨rfl, hd8, ho8⟩
        have H8 : Hid (HasD w8 w.heap.size (kd7 h o true (x + 1))) := hd8
        have HB8 := Lib.hid (Only.below HB7.out ho8 (Nat.le_of_lt H7.out.lt) (by simp))
        clear hd8 ho8
        simp only [want, if_true]
        go_wp2_with (fail)
        refine (May_any w.heap.size _ o write _ H8.out).mono ?_
        rw [hm]
        rintro e w9 ⟨rfl, rfl⟩
        have hmm : (my != my) = false := by simp
        clear hm
        go_wp2_with (fail)
        refine (May_any w.heap.size _ h write _ H8.out).mono ?_
        rw [FO.out.2.2.2.1]
        rintro e w9 ⟨rfl, rfl⟩
        go_wp2_with (fail)
        refine (Release_any w.heap.size _ h _ H8.out).mono ?_
        rw [FO.out.2.2.2.2.1]
        rintro e w9 ⟨rfl, hd9, ho9⟩
        have H9 : Hid (HasD w9 w.heap.size (kd8 h o true (x + 1))) := hd9
        have HB9 := Lib.hid (Only.below HB8.out ho9 (Nat.le_of_lt H8.out.lt) (by simp))
        clear hd9 ho9
        go_wp2_with (fail)
        refine (May_any w.heap.size _ o write _ H9.out).mono ?_
        rw [FO.out.2.2.2.2.2.1]
        rintro e w10 ⟨rfl, rfl⟩
        go_wp2_with (fail)
        refine (Release_any w.heap.size _ h _ H9.out).mono ?_
        rw [FO.out.2.2.2.2.2.2]
        rintro e w10 ⟨rfl, hd10, ho10⟩
        have HB10 := Lib.hid (Only.below HB9.out ho10 (Nat.le_of_lt H9.out.lt) (by simp))
        clear hd10 ho10
        go_wp2_with (fail)
        go_ret
        exact ⟨rfl, HB10.out⟩
theorem u8_range {a : Int} (h : (Lit.int .u8 a).wf = true) : ∃ n : Nat, a = (n : Int) ∧ n < 256 := by
  have h1 : 0 ≤ a ∧ a < 256 := by
    simp [Lit.wf] at h
    have e0 : IntKind.u8.min = 0 := by decide
    have e1 : IntKind.u8.max = 255 := by decide
    omega
  exact ⟨a.toNat, by omega, by omega⟩
theorem kinds_int (a b c : Int) (known write : Bool) (w : World) (ha : (Lit.int .u8 a).wf = true) (hb : (Lit.int .u8 b).wf = true) (hc : (Lit.int .u8 c).wf = true) :
    Calls Try.prog 3 #[.int .u8 a, .int .u8 b, .int .u8 c, .bool known, .bool write] w fun e w' => e = .returned (.bool true) ∧ Below w.heap.size w w' := by
  obtain ⟨x, rfl, hx⟩ := u8_range ha
  obtain ⟨y, rfl, hy⟩ := u8_range hb
  obtain ⟨z, rfl, hz⟩ := u8_range hc
  exact kinds_walk x y z known write w hx hy hz
end Go.Proofs.Ytiemlpkkbfojfaa.Res
