/- The walk of ReserveKeeps. -/
import Derived.Test.YtiemlpkkbfojfaaOpIn
import Derived.Deep.LoopGhost
import Derived.BigQuiet
namespace Go.Proofs.Ytiemlpkkbfojfaa.Res
open Go.RowKit
set_option linter.unusedVariables false
theorem wiped_key (d : Dk) (i : Nat) (hi : i < 16) : d.wiped.keyOf (i : Int) = 0 := by
  rw [keyOf_at d.wiped i hi]
  show (List.replicate 16 (0 : Int)).getD i 0 = 0
  rw [List.getD_eq_getElem?_getD, List.getElem?_replicate, if_pos hi]; rfl
theorem wiped_may (d : Dk) (i : Nat) (hi : i < 16) (b : Bool) : d.wiped.may (i : Int) b = true := by
  unfold Dk.may; rw [if_pos ⟨by omega, by omega⟩, if_pos (.inl rfl)]
set_option maxRecDepth 100000 in
set_option maxHeartbeats 4000000 in
theorem keeps_walk (A : Option Addr) (cap : Nat) (os : List OpR) (hn : Nat) (k : Int) (kp : Bool) (w : World) (hin : InOps w A os) (hlc : os.length ≤ cap) (hcm : cap ≤ maxLen) (hh : hn < 256) :
    Calls Try.prog 7 #[.slice A os.length cap, .int .u8 (hn : Int), .int .u64 k, .bool kp] w fun e w' => e = .returned (.bool true) ∧ Below w.heap.size w w' := by
  have HIN := Lib.hid hin
  clear hin
  have hml : os.length ≤ 9223372036854775807 := by unfold maxLen at hcm; omega
  go_enter Try.func7, Try.ntmps7
  go_wp2_with (fail)
  refine (awake_any _).mono ?_
  rintro e w1 ⟨rfl, hb1⟩
  have HB1 := Lib.hid hb1
  have hs1 := hb1.size
  clear hb1
  go_wp2_with (fail)
  refine (new_any _).mono ?_
  rintro e w2 ⟨rfl, hw2⟩
  have hD0 := hasD_new w1
  rw [← hw2] at hD0
  have HD0 := Lib.hid hD0
  have HB2 := Lib.hid (show Below w.heap.size w w2 by rw [hw2]; exact HB1.out.alloc hs1 _)
  clear hw2 hD0
  generalize hg : w1.heap.size = g at *
  clear hg
  have hgw : w.heap.size ≤ g := hs1
  clear hs1
  obtain ⟨wi, hwi⟩ : ∃ wi : World, wi = w := ⟨_, rfl⟩
  go_wp2_with (fail)
  go_loopg [10] (os.length) (fun q v10 wr => ∃ i : Nat, i ≤ os.length ∧ v10 = .int .i64 i ∧ q = os.length - i ∧ (∃ d, HasD wr g d) ∧ Below w.heap.size w wr)
  case atStart => exact ⟨0, by omega, rfl, rfl, ⟨_, HD0.out⟩, HB2.out⟩
  case round =>
    obtain ⟨i, hi, rfl, hq, ⟨d, hD⟩, hb⟩ := hrel
    have HQ := Lib.hid hq
    have HD := Lib.hid hD
    have HB := Lib.hid hb
    have hgr := hD.lt
    clear hq hD hb
    by_cases hlt : i < os.length
    · obtain ⟨o, ho⟩ : ∃ o, os[i]? = some o := ⟨_, List.getElem?_eq_getElem hlt⟩
      obtain ⟨b, off, rfl, hbl, c0, c1, c2, c3, c4⟩ : ∃ b off, A = some ⟨b, off, none⟩ ∧ b < w.heap.size ∧ wr.cell? ⟨b, off + i * 5, none⟩ = some (.int .i64 o.kd) ∧ wr.cell? ⟨b, off + i * 5 + 1, none⟩ = some (.int .i64 o.ini) ∧ wr.cell? ⟨b, off + i * 5 + 2, none⟩ = some (.int .i64 o.rs) ∧
          wr.cell? ⟨b, off + i * 5 + 3, none⟩ = some (.int .u64 o.ky) ∧ wr.cell? ⟨b, off + i * 5 + 4, none⟩ = some (.bool o.kp) := by
        rcases HIN.out with h | ⟨b, off, hA, hbl, h⟩
        · rw [h] at hlt; simp at hlt
        · refine ⟨b, off, hA, hbl, ?_⟩
          simp only [bcell HB.out b _ hbl]
          exact h i o ho
      clear ho
      have C0 := do_any g d Dk.new o.kd o.ini o.rs o.ky o.kp wr HD.out rfl (fun h => absurd rfl h)
      have C := Lib.hid C0
      clear C0
      go_wp2_with (fail)
      refine C.out.mono ?_
      rintro e w3 ⟨rfl, hd3, ho3⟩
      have HD3 := Lib.hid hd3
      have HB3 := Lib.hid (Only.below HB.out ho3 (by omega) (by simp; omega))
      clear hd3 ho3 c0 c1 c2 c3 c4
      go_wp2_with (fail)
      go_roundg (os.length - (i + 1))
      case measure => have := HQ.out; omega
      case rel => exact ⟨i + 1, by omega, by go_num, rfl, ⟨_, HD3.out⟩, HB3.out⟩
    · obtain rfl : i = os.length := by omega
      have x0 : 0 ≤ (hn : Int) % 16 := by omega
      have x1 : (hn : Int) % 16 < 16 := by omega
      go_wp2_with (fail)
      generalize (hn : Int) % 16 = h at *
      have C0 := Register_any g d h k kp _ HD.out
      rw [show d.regE h = 0 from by unfold Dk.regE; rw [if_pos ⟨x0, x1⟩]] at C0
      refine C0.mono ?_
      clear C0
      rintro e w3 ⟨rfl, hd3, ho3⟩
      have hkp : (d.reg h k kp).keep = kp := by unfold Dk.reg; rw [if_pos ⟨x0, x1⟩]
      have HB3 := Lib.hid (Only.below HB.out ho3 (by omega) (by simp; omega))
      have HD3 := Lib.hid hd3
      have HKP := Lib.hid hkp
      clear hd3 ho3 hkp HD HB
      generalize d.reg h k kp = d1 at *
      go_wp2_with (fail)
      refine (Holder_any g d1 _ HD3.out).mono ?_
      rintro e w4 ⟨rfl, hb4⟩
      have HD4 := Lib.hid (HD3.out.below hb4)
      have HB4 := Lib.hid (HB3.out.trans (hb4.mono (by have := HD3.out.lt; omega)))
      clear hb4 HD3 HB3
      have hg4 := HD4.out.lt
      have hs1 : HasD (w4.alloc (.cells #[.int .u64 0, .int .u64 0, .int .u64 0, .int .u64 0, .int .u64 0, .int .u64 0, .int .u64 0, .int .u64 0, .int .u64 0, .int .u64 0, .int .u64 0, .int .u64 0, .int .u64 0, .int .u64 0, .int .u64 0, .int .u64 0] 33)) g d1 := HD4.out.kept ((Only.refl [] _).alloc_ _) (by simp)
      have hs2 : HasA (w4.alloc (.cells #[.int .u64 0, .int .u64 0, .int .u64 0, .int .u64 0, .int .u64 0, .int .u64 0, .int .u64 0, .int .u64 0, .int .u64 0, .int .u64 0, .int .u64 0, .int .u64 0, .int .u64 0, .int .u64 0, .int .u64 0, .int .u64 0] 33)) w4.heap.size (List.replicate 16 0) := ⟨heap_alloc_new w4 _, rfl⟩
      have hs3 : Below w.heap.size w (w4.alloc (.cells #[.int .u64 0, .int .u64 0, .int .u64 0, .int .u64 0, .int .u64 0, .int .u64 0, .int .u64 0, .int .u64 0, .int .u64 0, .int .u64 0, .int .u64 0, .int .u64 0, .int .u64 0, .int .u64 0, .int .u64 0, .int .u64 0] 33)) := HB4.out.alloc (by omega) _
      have HS1 := Lib.hid hs1
      have HS2 := Lib.hid hs2
      have HS3 := Lib.hid hs3
      clear hs1 hs2 hs3
      go_wp2_with (fail)
      generalize w4.alloc (.cells #[.int .u64 0, .int .u64 0, .int .u64 0, .int .u64 0, .int .u64 0, .int .u64 0, .int .u64 0, .int .u64 0, .int .u64 0, .int .u64 0, .int .u64 0, .int .u64 0, .int .u64 0, .int .u64 0, .int .u64 0, .int .u64 0] 33) = w5 at *
      generalize hbl : w4.heap.size = bl at *
      clear hbl
      go_loopg [15] (16) (fun q v15 wr => ∃ i : Nat, i ≤ 16 ∧ v15 = .int .i64 i ∧ q = 16 - i ∧ (∃ ks : List Int, (∀ j, j < i → ks.getD j 0 = d1.keyOf (j : Int)) ∧ HasA wr bl ks) ∧ HasD wr g d1 ∧ Below w.heap.size w wr)
      case atStart => exact ⟨0, by omega, rfl, rfl, ⟨_, fun j hj => by omega, HS2.out⟩, HS1.out, HS3.out⟩
      case round =>
        obtain ⟨i, hi, rfl, hq, ⟨ks, hks, hA⟩, hD, hb⟩ := hrel
        have HQ5 := Lib.hid hq
        have HA5 := Lib.hid hA
        have HD5 := Lib.hid hD
        have HB5 := Lib.hid hb
        have HKS := Lib.hid hks
        have hg5 := hD.lt
        clear hq hA hD hb hks
        by_cases hlt5 : i < 16
        · have f5 := HA5.out.frozen i
          have c5 := HA5.out.cell hlt5
          go_wp2_with (fail)
          refine (Key_any g d1 (i : Int) _ HD5.out).mono ?_
          rintro e w6 ⟨rfl, hw6⟩
          have hw6' : w6 = wr := hw6
          clear hw6
          subst hw6'
          go_wp2_with (fail)
          go_roundg (16 - (i + 1))
          case measure => have := HQ5.out; omega
          case rel =>
            refine ⟨i + 1, by omega, by go_num, rfl, ⟨_, ?_, HA5.out.set _⟩, HD5.out.kept (Only.set (p := ⟨bl, i, none⟩) _) (by simp; omega), Only.below HB5.out (Only.set (p := ⟨bl, i, none⟩) _) (by omega) (by simp; omega)⟩
            intro j hj
            rw [key_set HA5.out.len hlt5]
            by_cases hij : i = j
            · subst hij; rw [if_pos rfl]
            · rw [if_neg hij]; exact HKS.out j (by omega)
        · obtain rfl : i = 16 := by omega
          go_wp2_with (fail)
          refine (Lose_any g d1 _ HD5.out).mono ?_
          rintro e w6 ⟨rfl, hd6, ho6⟩
          have HD6 := Lib.hid hd6
          have HA6 := Lib.hid (HA5.out.kept ho6 (by simp; omega))
          have HB6 := Lib.hid (Only.below HB5.out ho6 (by omega) (by simp; omega))
          have hg6 := hd6.lt
          clear hd6 ho6
          go_wp2_with (fail)
          refine (Holder_any g d1.lose _ HD6.out).mono ?_
          rintro e w7 ⟨rfl, hb7⟩
          have HD7' := Lib.hid (HD6.out.below hb7)
          have HA7 := Lib.hid (HA6.out.below hb7)
          have HB7 := Lib.hid (HB6.out.trans (hb7.mono (by omega)))
          clear hb7
          cases kp with
          | true =>
            have hl : d1.lose = d1 := by unfold Dk.lose; rw [HKP.out]; rfl
            rw [hl] at HD7' ⊢
            have HD7 := HD7'
            clear hl HD7'
            have t1 : (d1.hH != d1.hH) = false := by rw [bne_eq_false_iff_eq]
            have t2 : (d1.kind != d1.kind) = false := by rw [bne_eq_false_iff_eq]
            have t3 : (d1.hE != d1.hE) = false := by rw [bne_eq_false_iff_eq]
            go_wp2_with (fail)
            go_loopg [19] (16) (fun q v19 wr => ∃ i : Nat, i ≤ 16 ∧ v19 = .int .i64 i ∧ q = 16 - i ∧ HasA wr bl ks ∧ HasD wr g d1 ∧ Below w.heap.size w wr)
            case atStart => exact ⟨0, by omega, rfl, rfl, HA7.out, HD7.out, HB7.out⟩
            case round =>
              obtain ⟨i, hi, rfl, hq, hA, hD, hb⟩ := hrel
              have HQ8 := Lib.hid hq
              have HA8 := Lib.hid hA
              have HD8 := Lib.hid hD
              have HB8 := Lib.hid hb
              clear hq hA hD hb
              by_cases hlt8 : i < 16
              · have hc8 := HA8.out.cell hlt8
                have K0 := fun n => Key_any g d1 (i : Int) (wr.drewN n) ⟨HD8.out.heap, HD8.out.len⟩
                rw [← HKS.out i hlt8] at K0
                generalize ks.getD i 0 = kv at hc8 K0
                have hbb : (kv != kv) = false := by rw [bne_eq_false_iff_eq]
                have KC := Lib.hid K0
                have MC := KC
                clear K0
                go_wp2_with (fail)
                go_quiet ((first | (go_at_call 16; exact Calls.quiet_of_same (KC.out _)) | (go_at_call 14; exact Calls.quiet_of_same (MC.out _))))
                go_wp2_with (fail)
                go_roundg (16 - (i + 1))
                case measure => have := HQ8.out; omega
                case rel => exact ⟨i + 1, by omega, by go_num, rfl, ⟨HA8.out.heap, HA8.out.len⟩, ⟨HD8.out.heap, HD8.out.len⟩, below_drewN HB8.out _⟩
              · obtain rfl : i = 16 := by omega
                go_wp2_with (fail)
                go_ret
                exact ⟨rfl, HB8.out⟩
          | false =>
            have hl : d1.lose = d1.wiped := by unfold Dk.lose; rw [HKP.out]; rfl
            rw [hl] at HD7' ⊢
            have HD7 := HD7'
            clear hl HD7'
            rw [show d1.wiped.hH = 0 from rfl, show d1.wiped.kind = 0 from rfl, show d1.wiped.hE = 10 from rfl]
            go_wp2_with (fail)
            go_loopg [19] (16) (fun q v19 wr => ∃ i : Nat, i ≤ 16 ∧ v19 = .int .i64 i ∧ q = 16 - i ∧ HasA wr bl ks ∧ HasD wr g d1.wiped ∧ Below w.heap.size w wr)
            case atStart => exact ⟨0, by omega, rfl, rfl, HA7.out, HD7.out, HB7.out⟩
            case round =>
              obtain ⟨i, hi, rfl, hq, hA, hD, hb⟩ := hrel
              have HQ8 := Lib.hid hq
              have HA8 := Lib.hid hA
              have HD8 := Lib.hid hD
              have HB8 := Lib.hid hb
              clear hq hA hD hb
              by_cases hlt8 : i < 16
              · have hc8 := HA8.out.cell hlt8
                have K0 := fun n => Key_any g d1.wiped (i : Int) (wr.drewN n) ⟨HD8.out.heap, HD8.out.len⟩
                rw [wiped_key d1 i hlt8] at K0
                have KC := Lib.hid K0
                have M0 := fun n => May_any g d1.wiped (i : Int) true (wr.drewN n) ⟨HD8.out.heap, HD8.out.len⟩
                rw [wiped_may d1 i hlt8] at M0
                have MC := Lib.hid M0
                clear K0 M0 hc8
                go_wp2_with (fail)
                go_quiet ((first | (go_at_call 16; exact Calls.quiet_of_same (KC.out _)) | (go_at_call 14; exact Calls.quiet_of_same (MC.out _))))
                go_wp2_with (fail)
                go_roundg (16 - (i + 1))
                case measure => have := HQ8.out; omega
                case rel => exact ⟨i + 1, by omega, by go_num, rfl, ⟨HA8.out.heap, HA8.out.len⟩, ⟨HD8.out.heap, HD8.out.len⟩, below_drewN HB8.out _⟩
              · obtain rfl : i = 16 := by omega
                go_wp2_with (fail)
                go_ret
                exact ⟨rfl, HB8.out⟩
theorem keeps_int (A : Option Addr) (cap : Nat) (os : List OpR) (a1 k : Int) (kp : Bool) (w : World) (hin : InOps w A os) (hlc : os.length ≤ cap) (hcm : cap ≤ maxLen) (h1 : (Lit.int .u8 a1).wf = true) :
    Calls Try.prog 7 #[.slice A os.length cap, .int .u8 a1, .int .u64 k, .bool kp] w fun e w' => e = .returned (.bool true) ∧ Below w.heap.size w w' := by
  obtain ⟨n, rfl, hn⟩ := u8_nat h1
  exact keeps_walk A cap os n k kp w hin hlc hcm hn
end Go.Proofs.Ytiemlpkkbfojfaa.Res
