/- Put, walked. -/
import Derived.Test.YtlkibkemmmppcaaEn2
namespace Go.Proofs.Ytlkibkemmmppcaa.Wd
open Go.RowKit
set_option linter.unusedVariables false
set_option linter.unusedSimpArgs false
def be1 (x : Int) : List Int := [x % 256]
def be2 (x : Int) : List Int := [x / 256 % 256, x % 256]
set_option maxRecDepth 100000 in
set_option maxHeartbeats 8000000 in
theorem put_1 {w0 w : World} {box : Array Value} {dv v : Value} {n : Nat} {bs L : List Int} (h : En w0 w box dv n bs v L) (x : Int) (hL : L.length ≤ 1000) :
    Calls Try.prog 20 #[v, .int .u64 x, .int .i64 1] w fun e w' => ∃ v', e = .returned v' ∧ En w0 w' box dv n bs v' (L ++ be1 x) := by
  have HE := Lib.hid h
  have HL := Lib.hid hL
  clear h hL
  go_enter Try.func20, Try.ntmps20
  go_wp2_with (fail)
  go_loopg [0, 7] (2) (fun q v0 vk wr => ∃ j : Nat, j ≤ 1 ∧ vk = .int .i64 (0 - (j : Int)) ∧ q = 2 - j ∧ En w0 wr box dv n bs v0 (L ++ (be1 x).take j))
  case atStart => exact ⟨0, by omega, rfl, rfl, by simpa using HE.out⟩
  case round =>
    obtain ⟨j, hj, rfl, hq, he⟩ := hrel
    have HEj := Lib.hid he
    have HQ := Lib.hid hq
    clear he hq
    by_cases hlt : j < 1
    · obtain rfl : j = 0 := by omega
      obtain ⟨v', w', hr, he'⟩ := HEj.out.app [x % 256] 1 rfl (by have := HL.out; simp [be1, be2, be4, be8]; omega)
      have HR := Lib.hid hr
      have HE' := Lib.hid he'
      clear hr he'
      go_wp2_with (first | (at_builtin; refine wpList_append_ran rfl (.tmp 14) (.tmp 20) 26 rfl _ _ rfl rfl _ _ HR.out ?_))
      go_roundg (2 - (0 + 1))
      case measure => have := HQ.out; omega
      case rel => exact ⟨0 + 1, by omega, rfl, rfl, by simpa [be1] using HE'.out⟩
    · obtain rfl : j = 1 := by omega
      have HF : Hid (En w0 wr box dv n bs u0 (L ++ be1 x)) := Lib.hid (by simpa [be1] using HEj.out)
      clear HEj
      go_wp2_with (fail)
      go_ret
      exact ⟨_, rfl, HF.out⟩
set_option maxRecDepth 100000 in
set_option maxHeartbeats 8000000 in
theorem put_2 {w0 w : World} {box : Array Value} {dv v : Value} {n : Nat} {bs L : List Int} (h : En w0 w box dv n bs v L) (x : Int) (hL : L.length ≤ 1000) :
    Calls Try.prog 20 #[v, .int .u64 x, .int .i64 2] w fun e w' => ∃ v', e = .returned v' ∧ En w0 w' box dv n bs v' (L ++ be2 x) := by
  have HE := Lib.hid h
  have HL := Lib.hid hL
  clear h hL
  go_enter Try.func20, Try.ntmps20
  go_wp2_with (fail)
  go_loopg [0, 7] (3) (fun q v0 vk wr => ∃ j : Nat, j ≤ 2 ∧ vk = .int .i64 (1 - (j : Int)) ∧ q = 3 - j ∧ En w0 wr box dv n bs v0 (L ++ (be2 x).take j))
  case atStart => exact ⟨0, by omega, rfl, rfl, by simpa using HE.out⟩
  case round =>
    obtain ⟨j, hj, rfl, hq, he⟩ := hrel
    have HEj := Lib.hid he
    have HQ := Lib.hid hq
    clear he hq
    by_cases hlt : j < 2
    · rcases (show j = 0 ∨ j = 1 by omega) with rfl | rfl
      · obtain ⟨v', w', hr, he'⟩ := HEj.out.app [x / 256 % 256] 1 rfl (by have := HL.out; simp [be1, be2, be4, be8]; omega)
        have HR := Lib.hid hr
        have HE' := Lib.hid he'
        clear hr he'
        go_wp2_with (first | (at_builtin; refine wpList_append_ran rfl (.tmp 14) (.tmp 20) 26 rfl _ _ rfl rfl _ _ HR.out ?_))
        go_roundg (3 - (0 + 1))
        case measure => have := HQ.out; omega
        case rel => exact ⟨0 + 1, by omega, rfl, rfl, by simpa [be2] using HE'.out⟩
      · obtain ⟨v', w', hr, he'⟩ := HEj.out.app [x % 256] 1 rfl (by have := HL.out; simp [be1, be2, be4, be8]; omega)
        have HR := Lib.hid hr
        have HE' := Lib.hid he'
        clear hr he'
        go_wp2_with (first | (at_builtin; refine wpList_append_ran rfl (.tmp 14) (.tmp 20) 26 rfl _ _ rfl rfl _ _ HR.out ?_))
        go_roundg (3 - (1 + 1))
        case measure => have := HQ.out; omega
        case rel => exact ⟨1 + 1, by omega, rfl, rfl, by simpa [be2] using HE'.out⟩
    · obtain rfl : j = 2 := by omega
      have HF : Hid (En w0 wr box dv n bs u0 (L ++ be2 x)) := Lib.hid (by simpa [be2] using HEj.out)
      clear HEj
      go_wp2_with (fail)
      go_ret
      exact ⟨_, rfl, HF.out⟩
set_option maxRecDepth 100000 in
set_option maxHeartbeats 8000000 in
theorem put_4 {w0 w : World} {box : Array Value} {dv v : Value} {n : Nat} {bs L : List Int} (h : En w0 w box dv n bs v L) (x : Int) (hL : L.length ≤ 1000) :
    Calls Try.prog 20 #[v, .int .u64 x, .int .i64 4] w fun e w' => ∃ v', e = .returned v' ∧ En w0 w' box dv n bs v' (L ++ be4 x) := by
  have HE := Lib.hid h
  have HL := Lib.hid hL
  clear h hL
  go_enter Try.func20, Try.ntmps20
  go_wp2_with (fail)
  go_loopg [0, 7] (5) (fun q v0 vk wr => ∃ j : Nat, j ≤ 4 ∧ vk = .int .i64 (3 - (j : Int)) ∧ q = 5 - j ∧ En w0 wr box dv n bs v0 (L ++ (be4 x).take j))
  case atStart => exact ⟨0, by omega, rfl, rfl, by simpa using HE.out⟩
  case round =>
    obtain ⟨j, hj, rfl, hq, he⟩ := hrel
    have HEj := Lib.hid he
    have HQ := Lib.hid hq
    clear he hq
    by_cases hlt : j < 4
    · rcases (show j = 0 ∨ j = 1 ∨ j = 2 ∨ j = 3 by omega) with rfl | rfl | rfl | rfl
      · obtain ⟨v', w', hr, he'⟩ := HEj.out.app [x / 16777216 % 256] 1 rfl (by have := HL.out; simp [be1, be2, be4, be8]; omega)
        have HR := Lib.hid hr
        have HE' := Lib.hid he'
        clear hr he'
        go_wp2_with (first | (at_builtin; refine wpList_append_ran rfl (.tmp 14) (.tmp 20) 26 rfl _ _ rfl rfl _ _ HR.out ?_))
        go_roundg (5 - (0 + 1))
        case measure => have := HQ.out; omega
        case rel => exact ⟨0 + 1, by omega, rfl, rfl, by simpa [be4] using HE'.out⟩
      · obtain ⟨v', w', hr, he'⟩ := HEj.out.app [x / 65536 % 256] 1 rfl (by have := HL.out; simp [be1, be2, be4, be8]; omega)
        have HR := Lib.hid hr
        have HE' := Lib.hid he'
        clear hr he'
        go_wp2_with (first | (at_builtin; refine wpList_append_ran rfl (.tmp 14) (.tmp 20) 26 rfl _ _ rfl rfl _ _ HR.out ?_))
        go_roundg (5 - (1 + 1))
        case measure => have := HQ.out; omega
        case rel => exact ⟨1 + 1, by omega, rfl, rfl, by simpa [be4] using HE'.out⟩
      · obtain ⟨v', w', hr, he'⟩ := HEj.out.app [x / 256 % 256] 1 rfl (by have := HL.out; simp [be1, be2, be4, be8]; omega)
        have HR := Lib.hid hr
        have HE' := Lib.hid he'
        clear hr he'
        go_wp2_with (first | (at_builtin; refine wpList_append_ran rfl (.tmp 14) (.tmp 20) 26 rfl _ _ rfl rfl _ _ HR.out ?_))
        go_roundg (5 - (2 + 1))
        case measure => have := HQ.out; omega
        case rel => exact ⟨2 + 1, by omega, rfl, rfl, by simpa [be4] using HE'.out⟩
      · obtain ⟨v', w', hr, he'⟩ := HEj.out.app [x % 256] 1 rfl (by have := HL.out; simp [be1, be2, be4, be8]; omega)
        have HR := Lib.hid hr
        have HE' := Lib.hid he'
        clear hr he'
        go_wp2_with (first | (at_builtin; refine wpList_append_ran rfl (.tmp 14) (.tmp 20) 26 rfl _ _ rfl rfl _ _ HR.out ?_))
        go_roundg (5 - (3 + 1))
        case measure => have := HQ.out; omega
        case rel => exact ⟨3 + 1, by omega, rfl, rfl, by simpa [be4] using HE'.out⟩
    · obtain rfl : j = 4 := by omega
      have HF : Hid (En w0 wr box dv n bs u0 (L ++ be4 x)) := Lib.hid (by simpa [be4] using HEj.out)
      clear HEj
      go_wp2_with (fail)
      go_ret
      exact ⟨_, rfl, HF.out⟩
set_option maxRecDepth 100000 in
set_option maxHeartbeats 8000000 in
theorem put_8 {w0 w : World} {box : Array Value} {dv v : Value} {n : Nat} {bs L : List Int} (h : En w0 w box dv n bs v L) (x : Int) (hL : L.length ≤ 1000) :
    Calls Try.prog 20 #[v, .int .u64 x, .int .i64 8] w fun e w' => ∃ v', e = .returned v' ∧ En w0 w' box dv n bs v' (L ++ be8 x) := by
  have HE := Lib.hid h
  have HL := Lib.hid hL
  clear h hL
  go_enter Try.func20, Try.ntmps20
  go_wp2_with (fail)
  go_loopg [0, 7] (9) (fun q v0 vk wr => ∃ j : Nat, j ≤ 8 ∧ vk = .int .i64 (7 - (j : Int)) ∧ q = 9 - j ∧ En w0 wr box dv n bs v0 (L ++ (be8 x).take j))
  case atStart => exact ⟨0, by omega, rfl, rfl, by simpa using HE.out⟩
  case round =>
    obtain ⟨j, hj, rfl, hq, he⟩ := hrel
    have HEj := Lib.hid he
    have HQ := Lib.hid hq
    clear he hq
    by_cases hlt : j < 8
    · rcases (show j = 0 ∨ j = 1 ∨ j = 2 ∨ j = 3 ∨ j = 4 ∨ j = 5 ∨ j = 6 ∨ j = 7 by omega) with rfl | rfl | rfl | rfl | rfl | rfl | rfl | rfl
      · obtain ⟨v', w', hr, he'⟩ := HEj.out.app [x / 72057594037927936 % 256] 1 rfl (by have := HL.out; simp [be1, be2, be4, be8]; omega)
        have HR := Lib.hid hr
        have HE' := Lib.hid he'
        clear hr he'
        go_wp2_with (first | (at_builtin; refine wpList_append_ran rfl (.tmp 14) (.tmp 20) 26 rfl _ _ rfl rfl _ _ HR.out ?_))
        go_roundg (9 - (0 + 1))
        case measure => have := HQ.out; omega
        case rel => exact ⟨0 + 1, by omega, rfl, rfl, by simpa [be8] using HE'.out⟩
      · obtain ⟨v', w', hr, he'⟩ := HEj.out.app [x / 281474976710656 % 256] 1 rfl (by have := HL.out; simp [be1, be2, be4, be8]; omega)
        have HR := Lib.hid hr
        have HE' := Lib.hid he'
        clear hr he'
        go_wp2_with (first | (at_builtin; refine wpList_append_ran rfl (.tmp 14) (.tmp 20) 26 rfl _ _ rfl rfl _ _ HR.out ?_))
        go_roundg (9 - (1 + 1))
        case measure => have := HQ.out; omega
        case rel => exact ⟨1 + 1, by omega, rfl, rfl, by simpa [be8] using HE'.out⟩
      · obtain ⟨v', w', hr, he'⟩ := HEj.out.app [x / 1099511627776 % 256] 1 rfl (by have := HL.out; simp [be1, be2, be4, be8]; omega)
        have HR := Lib.hid hr
        have HE' := Lib.hid he'
        clear hr he'
        go_wp2_with (first | (at_builtin; refine wpList_append_ran rfl (.tmp 14) (.tmp 20) 26 rfl _ _ rfl rfl _ _ HR.out ?_))
        go_roundg (9 - (2 + 1))
        case measure => have := HQ.out; omega
        case rel => exact ⟨2 + 1, by omega, rfl, rfl, by simpa [be8] using HE'.out⟩
      · obtain ⟨v', w', hr, he'⟩ := HEj.out.app [x / 4294967296 % 256] 1 rfl (by have := HL.out; simp [be1, be2, be4, be8]; omega)
        have HR := Lib.hid hr
        have HE' := Lib.hid he'
        clear hr he'
        go_wp2_with (first | (at_builtin; refine wpList_append_ran rfl (.tmp 14) (.tmp 20) 26 rfl _ _ rfl rfl _ _ HR.out ?_))
        go_roundg (9 - (3 + 1))
        case measure => have := HQ.out; omega
        case rel => exact ⟨3 + 1, by omega, rfl, rfl, by simpa [be8] using HE'.out⟩
      · obtain ⟨v', w', hr, he'⟩ := HEj.out.app [x / 16777216 % 256] 1 rfl (by have := HL.out; simp [be1, be2, be4, be8]; omega)
        have HR := Lib.hid hr
        have HE' := Lib.hid he'
        clear hr he'
        go_wp2_with (first | (at_builtin; refine wpList_append_ran rfl (.tmp 14) (.tmp 20) 26 rfl _ _ rfl rfl _ _ HR.out ?_))
        go_roundg (9 - (4 + 1))
        case measure => have := HQ.out; omega
        case rel => exact ⟨4 + 1, by omega, rfl, rfl, by simpa [be8] using HE'.out⟩
      · obtain ⟨v', w', hr, he'⟩ := HEj.out.app [x / 65536 % 256] 1 rfl (by have := HL.out; simp [be1, be2, be4, be8]; omega)
        have HR := Lib.hid hr
        have HE' := Lib.hid he'
        clear hr he'
        go_wp2_with (first | (at_builtin; refine wpList_append_ran rfl (.tmp 14) (.tmp 20) 26 rfl _ _ rfl rfl _ _ HR.out ?_))
        go_roundg (9 - (5 + 1))
        case measure => have := HQ.out; omega
        case rel => exact ⟨5 + 1, by omega, rfl, rfl, by simpa [be8] using HE'.out⟩
      · obtain ⟨v', w', hr, he'⟩ := HEj.out.app [x / 256 % 256] 1 rfl (by have := HL.out; simp [be1, be2, be4, be8]; omega)
        have HR := Lib.hid hr
        have HE' := Lib.hid he'
        clear hr he'
        go_wp2_with (first | (at_builtin; refine wpList_append_ran rfl (.tmp 14) (.tmp 20) 26 rfl _ _ rfl rfl _ _ HR.out ?_))
        go_roundg (9 - (6 + 1))
        case measure => have := HQ.out; omega
        case rel => exact ⟨6 + 1, by omega, rfl, rfl, by simpa [be8] using HE'.out⟩
      · obtain ⟨v', w', hr, he'⟩ := HEj.out.app [x % 256] 1 rfl (by have := HL.out; simp [be1, be2, be4, be8]; omega)
        have HR := Lib.hid hr
        have HE' := Lib.hid he'
        clear hr he'
        go_wp2_with (first | (at_builtin; refine wpList_append_ran rfl (.tmp 14) (.tmp 20) 26 rfl _ _ rfl rfl _ _ HR.out ?_))
        go_roundg (9 - (7 + 1))
        case measure => have := HQ.out; omega
        case rel => exact ⟨7 + 1, by omega, rfl, rfl, by simpa [be8] using HE'.out⟩
    · obtain rfl : j = 8 := by omega
      have HF : Hid (En w0 wr box dv n bs u0 (L ++ be8 x)) := Lib.hid (by simpa [be8] using HEj.out)
      clear HEj
      go_wp2_with (fail)
      go_ret
      exact ⟨_, rfl, HF.out⟩
end Go.Proofs.Ytlkibkemmmppcaa.Wd
