/- The walk of ReservePreempts. -/
import Derived.Test.YtiemlpkkbfojfaaIn
import Derived.Deep.LoopGhost
import Derived.BigQuiet
namespace Go.Proofs.Ytiemlpkkbfojfaa.Res
open Go.RowKit
set_option linter.unusedVariables false
/-! Plain facts. -/
theorem set_pos {ks : List Int} {i : Nat} {k : Int} (h : ∀ j, j < i → 1 ≤ ks.getD j 0) (hl : ks.length = 16) (hi : i < 16) (hk : 1 ≤ k) : ∀ j, j < i + 1 → 1 ≤ (ks.set i k).getD j 0 := by
  intro j hj
  rw [List.getD_eq_getElem?_getD, List.getElem?_set]
  by_cases hij : i = j
  · subst hij; rw [if_pos rfl, if_pos (by omega)]; exact hk
  · rw [if_neg hij, ← List.getD_eq_getElem?_getD]; exact h j (by omega)
theorem reg_all (ks : List Int) (kp : Bool) (i : Nat) (k : Int) (hi : i < 16) : (Dk.mk ks 0 0 kp).regE (i : Int) = 0 ∧ (Dk.mk ks 0 0 kp).reg (i : Int) k true = Dk.mk (ks.set i k) 0 0 true := by
  have hin : isIn (i : Int) := ⟨by omega, by omega⟩
  constructor
  · unfold Dk.regE; rw [if_pos hin]
  · unfold Dk.reg; rw [if_pos hin]
    simp only [Int.toNat_natCast, ite_self]
theorem res_all (ks : List Int) (kp : Bool) (h : Nat) (k : Int) (hh : h < 16) (hk : 1 ≤ ks.getD h 0) (k1 : 1 ≤ k) (k4 : k ≤ 4) : (Dk.mk ks 0 0 kp).resE (h : Int) k = 0 ∧ (Dk.mk ks 0 0 kp).res (h : Int) k = Dk.mk ks h k kp := by
  have hin : isIn (h : Int) := ⟨by omega, by omega⟩
  have hE : (Dk.mk ks 0 0 kp).resE (h : Int) k = 0 := by
    unfold Dk.resE
    rw [if_neg (by rintro (c | c | c); exact c hin; omega; omega), if_neg, if_neg]
    · intro c; exact c.1 rfl
    · show ¬ (ks.getD (h : Int).toNat 0 = 0)
      rw [Int.toNat_natCast]; omega
  refine ⟨hE, ?_⟩
  unfold Dk.res; rw [if_pos hE]
/-- The desk behind the reservation. -/
theorem pre_all (ks : List Int) (kp : Bool) (h b : Nat) (k : Int) (hl : ks.length = 16) (hh : h < 16) (hb : b < 16) (hks : ∀ j, j < 16 → 1 ≤ ks.getD j 0) (k1 : 1 ≤ k) :
    (Dk.mk ks h k kp).preE (b : Int) (ks.getD h 0) = (if (Dk.mk ks h k kp).others b (ks.getD h 0) 16 then 0 else 10) ∧ ((Dk.mk ks h k kp).pre (b : Int) (ks.getD h 0)).keys = (Dk.mk ks h k kp).struck b (ks.getD h 0) 16 ∧
    ((Dk.mk ks h k kp).pre (b : Int) (ks.getD h 0)).holder = b ∧ ((Dk.mk ks h k kp).pre (b : Int) (ks.getD h 0)).kind = k := by
  have hin : isIn (b : Int) := ⟨by omega, by omega⟩
  have hE : (Dk.mk ks h k kp).preE (b : Int) (ks.getD h 0) = (if (Dk.mk ks h k kp).others b (ks.getD h 0) 16 then 0 else 10) := by
    unfold Dk.preE
    rw [if_neg (by rintro (c | c); exact c hin; have := hks h hh; omega), if_neg]
    show ¬ (ks.getD (b : Int).toNat 0 = 0)
    have := hks b hb
    rw [Int.toNat_natCast]; omega
  refine ⟨hE, ?_⟩
  have hheld : ¬ h = b → (Dk.mk ks h k kp).held b (ks.getD h 0) 16 = true := by
    intro hne
    unfold Dk.held
    rw [List.any_eq_true]
    refine ⟨h, List.mem_range.2 hh, ?_⟩
    rw [Bool.and_eq_true, Bool.and_eq_true, Bool.and_eq_true]
    refine ⟨⟨decide_eq_true (by omega), decide_eq_true rfl⟩, decide_eq_true ?_, decide_eq_true rfl⟩
    show ¬ k = 0
    omega
  unfold Dk.pre
  rw [hE]
  cases ho : (Dk.mk ks h k kp).others b (ks.getD h 0) 16 with
  | true =>
    refine ⟨rfl, ?_, rfl⟩
    show (if (Dk.mk ks h k kp).held b (ks.getD h 0) 16 = true then (b : Int) else (h : Int)) = b
    by_cases hne : h = b
    · subst hne; simp
    · rw [if_pos (hheld hne)]
  | false =>
    rw [if_neg (by decide)]
    refine ⟨?_, ?_, rfl⟩
    · rw [struck_none _ _ _ ho hl]
    · show (h : Int) = b
      by_cases hne : h = b
      · rw [hne]
      · rw [held_others _ _ _ _ (hheld hne)] at ho; cases ho
theorem struck_at (d : Dk) (n k : Int) (j : Nat) (hj : j < 16) : (d.struck n k j).getD j 0 = d.key j := by
  unfold Dk.struck
  rw [List.getD_eq_getElem?_getD, List.getElem?_map, List.getElem?_range hj]
  simp
theorem keyOf_at (d : Dk) (j : Nat) (hj : j < 16) : d.keyOf (j : Int) = d.keys.getD j 0 := by
  unfold Dk.keyOf; rw [if_pos ⟨by omega, by omega⟩, Int.toNat_natCast]; rfl
set_option maxRecDepth 100000 in
set_option maxHeartbeats 4000000 in
theorem plaw_walk (A : Option Addr) (cap : Nat) (xs : List Int) (hn bn kn : Nat) (w : World) (hin : InInts w .u8 A xs) (hwf : ∀ x ∈ xs, (Lit.int .u8 x).wf = true) (hlc : xs.length ≤ cap) (hcm : cap ≤ maxLen) (hh : hn < 256) (hb : bn < 256) (hk : kn < 256) :
    Calls Try.prog 4 #[.slice A xs.length cap, .int .u8 (hn : Int), .int .u8 (bn : Int), .int .u8 (kn : Int)] w fun e w' => e = .returned (.bool true) ∧ Below w.heap.size w w' := by
  go_enter Try.func4, Try.ntmps4
  go_wp2_with (fail)
  refine (new_any _).mono ?_
  rintro e w0 ⟨rfl, rfl⟩
  have hD0 := hasD_new w
  have hB0 : Below w.heap.size w (w.alloc (.cells Dk.new.cells 51)) := (Below.refl _ _).alloc (Nat.le_refl _) _
  generalize w.alloc (.cells Dk.new.cells 51) = w0 at *
  have H0 := Lib.hid hD0
  have HB0 := Lib.hid hB0
  clear hD0 hB0
  go_wp2_with (fail)
  refine (awake_any _).mono ?_
  rintro e w1 ⟨rfl, hb1⟩
  have H1 := Lib.hid (H0.out.kept (Only.of_below hb1 []) (by simp))
  have HB1 := Lib.hid (HB0.out.trans (hb1.mono (Nat.le_of_lt H0.out.lt)))
  clear hb1
  go_wp2_with (fail)
  have HIN := Lib.hid hin
  have HWF := Lib.hid hwf
  have hgw := H1.out.lt
  have hs0 : HasD (w1.alloc (.cells #[.int .u64 0, .int .u64 0, .int .u64 0, .int .u64 0, .int .u64 0, .int .u64 0, .int .u64 0, .int .u64 0, .int .u64 0, .int .u64 0, .int .u64 0, .int .u64 0, .int .u64 0, .int .u64 0, .int .u64 0, .int .u64 0] 33)) w.heap.size Dk.new := H1.out.kept ((Only.refl [] _).alloc_ _) (by simp)
  have hs1 : HasA (w1.alloc (.cells #[.int .u64 0, .int .u64 0, .int .u64 0, .int .u64 0, .int .u64 0, .int .u64 0, .int .u64 0, .int .u64 0, .int .u64 0, .int .u64 0, .int .u64 0, .int .u64 0, .int .u64 0, .int .u64 0, .int .u64 0, .int .u64 0] 33)) w1.heap.size (List.replicate 16 0) := ⟨heap_alloc_new w1 _, rfl⟩
  have hs2 : Below w.heap.size w (w1.alloc (.cells #[.int .u64 0, .int .u64 0, .int .u64 0, .int .u64 0, .int .u64 0, .int .u64 0, .int .u64 0, .int .u64 0, .int .u64 0, .int .u64 0, .int .u64 0, .int .u64 0, .int .u64 0, .int .u64 0, .int .u64 0, .int .u64 0] 33)) := HB1.out.alloc (Nat.le_of_lt hgw) _
  generalize w1.alloc (.cells #[.int .u64 0, .int .u64 0, .int .u64 0, .int .u64 0, .int .u64 0, .int .u64 0, .int .u64 0, .int .u64 0, .int .u64 0, .int .u64 0, .int .u64 0, .int .u64 0, .int .u64 0, .int .u64 0, .int .u64 0, .int .u64 0] 33) = w2 at *
  have HS0 := Lib.hid hs0
  have HS1 := Lib.hid hs1
  have HS2 := Lib.hid hs2
  have HSZ : w.heap.size < w1.heap.size := hgw
  generalize hbl : w1.heap.size = bl at *
  clear hs0 hs1 hs2 hin hwf H0 HB0 H1 HB1 hbl hgw
  obtain ⟨wi, hwi⟩ : ∃ wi : World, wi = w := ⟨_, rfl⟩
  go_loopg [11] (16) (fun q v11 wr => ∃ i : Nat, i ≤ 16 ∧ v11 = .int .i64 i ∧ q = 16 - i ∧ (∃ ks kp, (∀ j, j < i → 1 ≤ ks.getD j 0) ∧ HasD wr w.heap.size ⟨ks, 0, 0, kp⟩ ∧ HasA wr bl ks) ∧ Below w.heap.size w wr)
  case atStart => exact ⟨0, by omega, rfl, rfl, ⟨_, _, by intro j hj; omega, HS0.out, HS1.out⟩, HS2.out⟩
  case round =>
    obtain ⟨i, hi, rfl, hq, ⟨ks, kp, hks, hD, hA⟩, hb⟩ := hrel
    have HQ := Lib.hid hq
    have HK := Lib.hid hks
    have HD := Lib.hid hD
    have HA := Lib.hid hA
    have HB := Lib.hid hb
    have hgr := hD.lt
    have hga := hA.lt
    clear hq hks hD hA hb
    by_cases hlt : i < 16
    · have hf1 := HA.out.frozen i
      have hf2 := HA.out.cell hlt
      have hA1 := HA.out.set (i := i) 1
      have hO1 : Only [bl] wr (wr.setCell ⟨bl, i, none⟩ (.int .u64 1)) := Only.set (p := ⟨bl, i, none⟩) _
      have hc1 := hA1.cell hlt
      have hf3 := hA1.frozen i
      rw [show (ks.set i 1).getD i 0 = 1 from by rw [List.getD_eq_getElem?_getD, List.getElem?_set_self (by rw [HA.out.len]; exact hlt)]; rfl] at hc1
      have HA1 := Lib.hid hA1
      have HO1 := Lib.hid hO1
      clear hA1 hO1
      by_cases hlx : i < xs.length
      · obtain ⟨x, hx⟩ : ∃ x, xs[i]? = some x := ⟨_, List.getElem?_eq_getElem hlx⟩
        have hxw := HWF.out x (List.mem_of_getElem? hx)
        obtain ⟨hxl, hxu⟩ : IntKind.u8.min ≤ x ∧ x ≤ IntKind.u8.max := by simpa [Lit.wf] using hxw
        have hx0 : 0 ≤ x := hxl
        have hx1 : x ≤ 255 := hxu
        clear hxl hxu
        obtain ⟨xn, rfl⟩ := Int.eq_ofNat_of_zero_le hx0
        obtain ⟨b, off, rfl, hbl, hrow⟩ : ∃ b off, A = some ⟨b, off, none⟩ ∧ b < w.heap.size ∧ w.cell? ⟨b, off + i, none⟩ = some (.int .u8 xn) := by
          rcases HIN.out with h | ⟨b, off, hA, hbl, h⟩
          · rw [h] at hlx; simp at hlx
          · exact ⟨b, off, hA, hbl, h i _ hx⟩
        have hr1 : (wr.setCell ⟨bl, i, none⟩ (.int .u64 1)).cell? ⟨b, off + i, none⟩ = some (.int .u8 xn) := by
          rw [← hrow]
          exact bcell (Only.below HB.out HO1.out (Nat.le_of_lt hgr) (by simp; omega)) b _ hbl
        have hA2 := HA1.out.set (i := i) ((xn : Int) % 3 + 1)
        have hc2 := hA2.cell hlt
        rw [show ((ks.set i 1).set i ((xn : Int) % 3 + 1)).getD i 0 = (xn : Int) % 3 + 1 from by rw [List.getD_eq_getElem?_getD, List.getElem?_set_self (by rw [HA1.out.len]; exact hlt)]; rfl] at hc2
        have HA2 := Lib.hid hA2
        have HO2 : Hid (Only [bl] wr _) := Lib.hid (HO1.out.set_ (p := ⟨bl, i, none⟩) (List.mem_singleton.mpr rfl) (.int .u64 ((xn : Int) % 3 + 1)))
        clear hA2 hx hxw hrow
        have SEL := reg_all ks kp i ((xn : Int) % 3 + 1) hlt
        have C0 := Register_any w.heap.size ⟨ks, 0, 0, kp⟩ i ((xn : Int) % 3 + 1) true _ (HD.out.kept HO2.out (by simp; omega))
        rw [SEL.1, SEL.2] at C0
        have C := Lib.hid C0
        clear C0 SEL
        go_wp2_with (fail)
        refine C.out.mono ?_
        rintro e w4 ⟨rfl, hd4, ho4⟩
        have HD4 := Lib.hid hd4
        have HA4 := Lib.hid (HA2.out.kept ho4 (by simp; omega))
        have HB4 := Lib.hid (Only.below (Only.below HB.out HO2.out (Nat.le_of_lt hgr) (by simp; omega)) ho4 (by rw [Nat.le_iff_lt_or_eq]; exact .inl (Nat.lt_of_lt_of_le hgr HO2.out.size)) (by simp))
        clear hd4 ho4
        go_wp2_with (fail)
        go_roundg (16 - (i + 1))
        case measure => have := HQ.out; omega
        case rel => exact ⟨i + 1, by omega, by go_num, rfl, ⟨_, _, set_pos HK.out HA.out.len hlt (by omega), HD4.out, by have := HA4.out; rw [List.set_set] at this; exact this⟩, HB4.out⟩
      · have SEL := reg_all ks kp i 1 hlt
        have C0 := Register_any w.heap.size ⟨ks, 0, 0, kp⟩ i 1 true _ (HD.out.kept HO1.out (by simp; omega))
        rw [SEL.1, SEL.2] at C0
        have C := Lib.hid C0
        clear C0 SEL
        go_wp2_with (fail)
        refine C.out.mono ?_
        rintro e w4 ⟨rfl, hd4, ho4⟩
        have HD4 := Lib.hid hd4
        have HA4 := Lib.hid (HA1.out.kept ho4 (by simp; omega))
        have HB4 := Lib.hid (Only.below (Only.below HB.out HO1.out (Nat.le_of_lt hgr) (by simp; omega)) ho4 (by rw [Nat.le_iff_lt_or_eq]; exact .inl (Nat.lt_of_lt_of_le hgr HO1.out.size)) (by simp))
        clear hd4 ho4
        go_wp2_with (fail)
        go_roundg (16 - (i + 1))
        case measure => have := HQ.out; omega
        case rel => exact ⟨i + 1, by omega, by go_num, rfl, ⟨_, _, set_pos HK.out HA.out.len hlt (by omega), HD4.out, HA4.out⟩, HB4.out⟩
    · obtain rfl : i = 16 := by omega
      have x0 : 0 ≤ (hn : Int) % 16 := by omega
      have x1 : (hn : Int) % 16 < 16 := by omega
      have y0 : 0 ≤ (bn : Int) % 16 := by omega
      have y1 : (bn : Int) % 16 < 16 := by omega
      have z0 : 0 ≤ (kn : Int) % 4 := by omega
      have z1 : (kn : Int) % 4 < 4 := by omega
      go_wp2_with (fail)
      generalize (hn : Int) % 16 = h at *
      generalize (bn : Int) % 16 = b at *
      generalize (kn : Int) % 4 = k at *
      obtain ⟨h, rfl⟩ := Int.eq_ofNat_of_zero_le x0
      obtain ⟨b, rfl⟩ := Int.eq_ofNat_of_zero_le y0
      have hh16 : h < 16 := by omega
      have hb16 : b < 16 := by omega
      have RES := res_all ks kp h (k + 1) hh16 (HK.out h hh16) (by omega) (by omega)
      have PRE := pre_all ks kp h b (k + 1) HA.out.len hh16 hb16 HK.out (by omega)
      have C0 := Reserve_any w.heap.size ⟨ks, 0, 0, kp⟩ h (k + 1) _ HD.out
      rw [RES.1, RES.2] at C0
      refine C0.mono ?_
      clear C0 RES
      rintro e w3 ⟨rfl, hd3, ho3⟩
      have HD3 := Lib.hid hd3
      have HA3 := Lib.hid (HA.out.kept ho3 (by simp; omega))
      have HB3 := Lib.hid (Only.below HB.out ho3 (Nat.le_of_lt hgr) (by simp))
      have hg3 := hd3.lt
      have hl3 := HA3.out.lt
      have hc3 := HA3.out.cell hh16
      clear hd3 ho3
      have C1 := Preempt_any w.heap.size ⟨ks, h, k + 1, kp⟩ b (ks.getD h 0) _ HD3.out
      rw [PRE.1] at C1
      have C2 := Lib.hid C1
      have PRE' := Lib.hid PRE.2
      have PK := PRE.2.2.2
      have PH := PRE.2.2.1
      clear C1 PRE
      generalize hdp : (Dk.mk ks h (k + 1) kp).pre (b : Int) (ks.getD h 0) = dp at *
      have HDP := Lib.hid hdp
      have HPK := Lib.hid PK
      have HPH := Lib.hid PH
      clear hdp PK PH
      generalize hdd : Dk.mk ks h (k + 1) kp = dd at *
      have hks : dd.keys = ks := by rw [← hdd]
      generalize hkey : ks.getD h 0 = key at *
      go_wp2_with (fail)
      refine C2.out.mono ?_
      rintro e w4 ⟨rfl, hd4, ho4⟩
      have HD4 := Lib.hid hd4
      have HA4 := Lib.hid (HA3.out.kept ho4 (by simp; omega))
      have HB4 := Lib.hid (Only.below HB3.out ho4 (Nat.le_of_lt hg3) (by simp))
      clear hd4 ho4 C2
      have HS4 : Hid (dd.struck b key 0 = ks) := Lib.hid (by rw [struck_zero _ _ _ (by rw [hks]; exact HA.out.len), hks])
      generalize hans : (if dd.others b key 16 = true then (0 : Int) else 10) = ans
      have HANS := Lib.hid hans
      clear hans hks HK HD HA HB HD3 HA3 HB3 hc3 HDP HPK HPH hdd hkey
      go_wp2_with (fail)
      go_loopg [17, 18] (16) (fun q v17 v18 wr => ∃ j c : Nat, j ≤ 16 ∧ c ≤ j ∧ v17 = .int .i64 c ∧ v18 = .int .i64 j ∧ q = 16 - j ∧ (c = 0 ↔ dd.others b key j = false) ∧ HasA wr bl (dd.struck b key j) ∧ HasD wr w.heap.size dp ∧ Below w.heap.size w wr)
      case atStart => exact ⟨0, 0, by omega, by omega, rfl, rfl, rfl, ⟨fun _ => rfl, fun _ => rfl⟩, by rw [HS4.out]; exact HA4.out, HD4.out, HB4.out⟩
      case round =>
        obtain ⟨j, c, hj, hcj, rfl, rfl, hq, hc, hA, hD, hb⟩ := hrel
        have HQ := Lib.hid hq
        have HC := Lib.hid hc
        have HA5 := Lib.hid hA
        have HD5 := Lib.hid hD
        have HB5 := Lib.hid hb
        have hg5 := hD.lt
        have hl5 := hA.lt
        clear hq hc hA hD hb
        by_cases hlt : j < 16
        · have hf := HA5.out.frozen j
          have hcell := HA5.out.cell hlt
          rw [struck_at _ _ _ _ hlt] at hcell
          by_cases hjn : (j : Int) = b
          · have hbn : ((j : Int) != (b : Int)) = false := by rw [bne_eq_false_iff_eq]; exact hjn
            have hh : dd.hits b key j = false := by unfold Dk.hits; rw [decide_eq_false (by simpa using hjn), Bool.false_and]
            have E1 := Lib.hid (others_succ dd b key j)
            have E3 := Lib.hid (struck_miss dd b key j hh)
            have HH := Lib.hid hh
            clear hh hjn
            go_wp2_with (fail)
            go_roundg (16 - (j + 1))
            case measure => have := HQ.out; omega
            case rel =>
              refine ⟨j + 1, c, by omega, by omega, rfl, by go_num, rfl, ?_, ?_, HD5.out, HB5.out⟩
              · rw [E1.out, HH.out, Bool.or_false]; exact HC.out
              · rw [E3.out]; exact HA5.out
          · by_cases hkk : dd.key j = key
            · have hbn : ((j : Int) != (b : Int)) = true := by rw [bne_iff_ne]; exact hjn
              have hbk : (dd.key j == key) = true := by rw [beq_iff_eq]; exact hkk
              have hh : dd.hits b key j = true := by unfold Dk.hits; rw [decide_eq_true (by simpa using hjn), decide_eq_true hkk]; rfl
              have E1 := Lib.hid (others_succ dd b key j)
              have E3 := Lib.hid (struck_hit dd b key j hlt hh)
              have HH := Lib.hid hh
              clear hh hjn hkk
              go_wp2_with (fail)
              go_roundg (16 - (j + 1))
              case measure => have := HQ.out; omega
              case rel =>
                refine ⟨j + 1, c + 1, by omega, by omega, by go_num, by go_num, rfl, ?_, ?_, HD5.out.kept (Only.set (p := ⟨bl, j, none⟩) _) (by simp; omega), Only.below HB5.out (Only.set (p := ⟨bl, j, none⟩) _) (Nat.le_of_lt hg5) (by simp; omega)⟩
                · rw [E1.out, HH.out, Bool.or_true]; exact ⟨fun h => by omega, fun h => by cases h⟩
                · rw [E3.out]; exact HA5.out.set 0
            · have hbn : ((j : Int) != (b : Int)) = true := by rw [bne_iff_ne]; exact hjn
              have hbk : (dd.key j == key) = false := by rw [beq_eq_false_iff_ne]; exact hkk
              have hh : dd.hits b key j = false := by unfold Dk.hits; rw [decide_eq_false hkk, Bool.and_false]
              have E1 := Lib.hid (others_succ dd b key j)
              have E3 := Lib.hid (struck_miss dd b key j hh)
              have HH := Lib.hid hh
              clear hh hjn hkk
              go_wp2_with (fail)
              go_roundg (16 - (j + 1))
              case measure => have := HQ.out; omega
              case rel =>
                refine ⟨j + 1, c, by omega, by omega, rfl, by go_num, rfl, ?_, ?_, HD5.out, HB5.out⟩
                · rw [E1.out, HH.out, Bool.or_false]; exact HC.out
                · rw [E3.out]; exact HA5.out
        · obtain rfl : j = 16 := by omega
          cases hoth : dd.others b key 16 with
          | true =>
            have h1 : ans = 0 := by rw [← HANS.out, hoth]; rfl
            subst h1
            have hc1 : 0 < c := by
              rcases Nat.eq_zero_or_pos c with h0 | h0
              · have := HC.out.1 h0; rw [hoth] at this; cases this
              · exact h0
            have hc2 : ((c : Int) == 0) = false := by rw [beq_eq_false_iff_ne]; omega
            clear hoth
            go_wp2_with (fail)
            go_loopg [19] (16) (fun q v19 wr => ∃ i : Nat, i ≤ 16 ∧ v19 = .int .i64 i ∧ q = 16 - i ∧ HasA wr bl (dd.struck b key 16) ∧ HasD wr w.heap.size dp ∧ Below w.heap.size w wr)
            case atStart => exact ⟨0, by omega, rfl, rfl, HA5.out, HD5.out, HB5.out⟩
            case round =>
              obtain ⟨i, hi, rfl, hq6, hA, hD, hb⟩ := hrel
              have HQ6 := Lib.hid hq6
              have HA6 := Lib.hid hA
              have HD6 := Lib.hid hD
              have HB6 := Lib.hid hb
              have hg6 := hD.lt
              have hl6 := hA.lt
              clear hq6 hA hD hb
              by_cases hlt6 : i < 16
              · have hc6 := HA6.out.cell hlt6
                have K0 := fun n => Key_any w.heap.size dp (i : Int) (wr.drewN n) ⟨HD6.out.heap, HD6.out.len⟩
                rw [keyOf_at dp i hlt6, PRE'.out.1] at K0
                generalize (dd.struck b key 16).getD i 0 = kv at hc6 K0
                have hbb : (kv != kv) = false := by rw [bne_eq_false_iff_eq]
                have KC := Lib.hid K0
                clear K0
                go_wp2_with (fail)
                go_quiet ((go_at_call 16; exact Calls.quiet_of_same (KC.out _)))
                go_wp2_with (fail)
                go_roundg (16 - (i + 1))
                case measure => have := HQ6.out; omega
                case rel => exact ⟨i + 1, by omega, by go_num, rfl, ⟨HA6.out.heap, HA6.out.len⟩, ⟨HD6.out.heap, HD6.out.len⟩, below_drewN HB6.out _⟩
              · obtain rfl : i = 16 := by omega
                have K0 := Holder_some w.heap.size dp wr HD6.out (by rw [PRE'.out.2.2]; omega)
                rw [PRE'.out.2.2, PRE'.out.2.1] at K0
                have KC := Lib.hid K0
                have hb1 : ((k + 1 : Int) == k + 1) = true := by rw [beq_iff_eq]
                have hb2 : ((b : Int) == (b : Int)) = true := by rw [beq_iff_eq]
                clear K0
                go_wp2_with (fail)
                refine KC.out.mono ?_
                rintro e w7 ⟨rfl, hb7⟩
                have HB7 := Lib.hid (HB6.out.trans (hb7.mono (Nat.le_of_lt hg6)))
                clear hb7
                go_wp2_with (fail)
                go_ret
                exact ⟨rfl, HB7.out⟩
          | false =>
            have h1 : ans = 10 := by rw [← HANS.out, hoth]; rfl
            subst h1
            obtain rfl : c = 0 := HC.out.2 hoth
            clear hoth
            go_wp2_with (fail)
            go_loopg [19] (16) (fun q v19 wr => ∃ i : Nat, i ≤ 16 ∧ v19 = .int .i64 i ∧ q = 16 - i ∧ HasA wr bl (dd.struck b key 16) ∧ HasD wr w.heap.size dp ∧ Below w.heap.size w wr)
            case atStart => exact ⟨0, by omega, rfl, rfl, HA5.out, HD5.out, HB5.out⟩
            case round =>
              obtain ⟨i, hi, rfl, hq6, hA, hD, hb⟩ := hrel
              have HQ6 := Lib.hid hq6
              have HA6 := Lib.hid hA
              have HD6 := Lib.hid hD
              have HB6 := Lib.hid hb
              have hg6 := hD.lt
              have hl6 := hA.lt
              clear hq6 hA hD hb
              by_cases hlt6 : i < 16
              · have hc6 := HA6.out.cell hlt6
                have K0 := fun n => Key_any w.heap.size dp (i : Int) (wr.drewN n) ⟨HD6.out.heap, HD6.out.len⟩
                rw [keyOf_at dp i hlt6, PRE'.out.1] at K0
                generalize (dd.struck b key 16).getD i 0 = kv at hc6 K0
                have hbb : (kv != kv) = false := by rw [bne_eq_false_iff_eq]
                have KC := Lib.hid K0
                clear K0
                go_wp2_with (fail)
                go_quiet ((go_at_call 16; exact Calls.quiet_of_same (KC.out _)))
                go_wp2_with (fail)
                go_roundg (16 - (i + 1))
                case measure => have := HQ6.out; omega
                case rel => exact ⟨i + 1, by omega, by go_num, rfl, ⟨HA6.out.heap, HA6.out.len⟩, ⟨HD6.out.heap, HD6.out.len⟩, below_drewN HB6.out _⟩
              · obtain rfl : i = 16 := by omega
                have K0 := Holder_some w.heap.size dp wr HD6.out (by rw [PRE'.out.2.2]; omega)
                rw [PRE'.out.2.2, PRE'.out.2.1] at K0
                have KC := Lib.hid K0
                have hb1 : ((k + 1 : Int) == k + 1) = true := by rw [beq_iff_eq]
                have hb2 : ((b : Int) == (b : Int)) = true := by rw [beq_iff_eq]
                clear K0
                go_wp2_with (fail)
                refine KC.out.mono ?_
                rintro e w7 ⟨rfl, hb7⟩
                have HB7 := Lib.hid (HB6.out.trans (hb7.mono (Nat.le_of_lt hg6)))
                clear hb7
                go_wp2_with (fail)
                go_ret
                exact ⟨rfl, HB7.out⟩
theorem u8_nat {a : Int} (h : (Lit.int .u8 a).wf = true) : ∃ n : Nat, a = n ∧ n < 256 := by
  obtain ⟨hl, hu⟩ : IntKind.u8.min ≤ a ∧ a ≤ IntKind.u8.max := by simpa [Lit.wf] using h
  have h0 : 0 ≤ a := hl
  have h1 : a ≤ 255 := hu
  obtain ⟨n, rfl⟩ := Int.eq_ofNat_of_zero_le h0
  exact ⟨n, rfl, by omega⟩
theorem plaw_int (A : Option Addr) (cap : Nat) (xs : List Int) (a1 a2 a3 : Int) (w : World) (hin : InInts w .u8 A xs) (hwf : ∀ x ∈ xs, (Lit.int .u8 x).wf = true) (hlc : xs.length ≤ cap) (hcm : cap ≤ maxLen)
    (w1 : (Lit.int .u8 a1).wf = true) (w2 : (Lit.int .u8 a2).wf = true) (w3 : (Lit.int .u8 a3).wf = true) :
    Calls Try.prog 4 #[.slice A xs.length cap, .int .u8 a1, .int .u8 a2, .int .u8 a3] w fun e w' => e = .returned (.bool true) ∧ Below w.heap.size w w' := by
  obtain ⟨n1, rfl, h1⟩ := u8_nat w1
  obtain ⟨n2, rfl, h2⟩ := u8_nat w2
  obtain ⟨n3, rfl, h3⟩ := u8_nat w3
  exact plaw_walk A cap xs n1 n2 n3 w hin hwf hlc hcm h1 h2 h3
end Go.Proofs.Ytiemlpkkbfojfaa.Res
