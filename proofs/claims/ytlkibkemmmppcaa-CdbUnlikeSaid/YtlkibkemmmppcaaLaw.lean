/- Plain law: what of a command's bytes is read back. -/
import Derived.Test.YtlkibkemmmppcaaRea
import Derived.Test.YtlkibkemmmppcaaGet
import Derived.Test.YtlkibkemmmppcaaEnc
namespace Go.Proofs.Ytlkibkemmmppcaa.Wd
open Go.RowKit
set_option linter.unusedVariables false
set_option linter.unusedSimpArgs false
/-- The number that bytes are, however great. -/
def vl (l : List Int) : Int := l.foldl (fun z x => z * 256 + x) 0
theorem vl_more (l : List Int) (x : Int) : vl (l ++ [x]) = vl l * 256 + x := by unfold vl; rw [List.foldl_append]; rfl
theorem rdz_mod (l : List Int) : rdz l % 18446744073709551616 = vl l % 18446744073709551616 := by
  have key : ∀ (l : List Int) (y z : Int), y % 18446744073709551616 = z % 18446744073709551616 → l.foldl (fun z x => wrap64 (z * 256 + x)) y % 18446744073709551616 = l.foldl (fun z x => z * 256 + x) z % 18446744073709551616 := by
    intro l
    induction l with
    | nil => intro y z h; exact h
    | cons x l ih => intro y z h; exact ih _ _ (by show wrap64 (y * 256 + x) % 18446744073709551616 = (z * 256 + x) % 18446744073709551616; unfold wrap64; omega)
  exact key l 0 0 rfl
theorem rdu_mod (l : List Int) : rdu l = vl l % 18446744073709551616 := by
  have key : ∀ (l : List Int) (y z : Int), y = z % 18446744073709551616 → l.foldl (fun z x => (z * 256 + x) % 18446744073709551616) y = l.foldl (fun z x => z * 256 + x) z % 18446744073709551616 := by
    intro l
    induction l with
    | nil => intro y z h; exact h
    | cons x l ih => intro y z h; exact ih _ _ (by show (y * 256 + x) % 18446744073709551616 = (z * 256 + x) % 18446744073709551616; omega)
  exact key l 0 0 rfl
theorem rdz_small (l : List Int) (h0 : 0 ≤ vl l) (h1 : vl l < 9223372036854775808) (hr : -9223372036854775808 ≤ rdz l ∧ rdz l < 9223372036854775808) : rdz l = vl l := by
  have := rdz_mod l
  omega
theorem rdz_range (l : List Int) : -9223372036854775808 ≤ rdz l ∧ rdz l < 9223372036854775808 := by
  rcases List.eq_nil_or_concat l with rfl | ⟨m, x, rfl⟩
  · exact ⟨by decide, by decide⟩
  · rw [List.concat_eq_append, rdz_more]; unfold wrap64; omega
theorem vl_be2 (x : Int) (h0 : 0 ≤ x) (h1 : x ≤ 65535) : vl [x / 256 % 256, x % 256] = x := by
  show ((0 * 256 + x / 256 % 256) * 256 + x % 256) = x
  omega
theorem vl_be4 (x : Int) (h0 : 0 ≤ x) (h1 : x ≤ 2147483647) : vl (be4 x) = x := by
  show ((((0 * 256 + x / 16777216 % 256) * 256 + x / 65536 % 256) * 256 + x / 256 % 256) * 256 + x % 256) = x
  omega
theorem dd (x : Int) (a : Int) (ha : 0 < a) : x / (a * 256) = x / a / 256 := by rw [Int.ediv_ediv_of_nonneg (by omega)]
theorem vl_be8 (x : Int) (h0 : 0 ≤ x) (h1 : x < 18446744073709551616) : vl (be8 x) = x := by
  have e1 := dd x 256 (by decide)
  have e2 := dd x 65536 (by decide)
  have e3 := dd x 16777216 (by decide)
  have e4 := dd x 4294967296 (by decide)
  have e5 := dd x 1099511627776 (by decide)
  have e6 := dd x 281474976710656 (by decide)
  have f : x / 72057594037927936 % 256 = x / 72057594037927936 := by omega
  show ((((((((0 * 256 + x / 72057594037927936 % 256) * 256 + x / 281474976710656 % 256) * 256 + x / 1099511627776 % 256) * 256 + x / 4294967296 % 256) * 256 + x / 16777216 % 256) * 256 + x / 65536 % 256) * 256 + x / 256 % 256) * 256 + x % 256) = x
  rw [f]
  have g6 : x / 72057594037927936 * 256 + x / 281474976710656 % 256 = x / 281474976710656 := by rw [show (72057594037927936 : Int) = 281474976710656 * 256 by decide, e6]; omega
  have g5 : x / 281474976710656 * 256 + x / 1099511627776 % 256 = x / 1099511627776 := by rw [show (281474976710656 : Int) = 1099511627776 * 256 by decide, e5]; omega
  have g4 : x / 1099511627776 * 256 + x / 4294967296 % 256 = x / 4294967296 := by rw [show (1099511627776 : Int) = 4294967296 * 256 by decide, e4]; omega
  have g3 : x / 4294967296 * 256 + x / 16777216 % 256 = x / 16777216 := by rw [show (4294967296 : Int) = 16777216 * 256 by decide, e3]; omega
  have g2 : x / 16777216 * 256 + x / 65536 % 256 = x / 65536 := by rw [show (16777216 : Int) = 65536 * 256 by decide, e2]; omega
  have g1 : x / 65536 * 256 + x / 256 % 256 = x / 256 := by rw [show (65536 : Int) = 256 * 256 by decide, e1]; omega
  rw [Int.zero_mul, Int.zero_add, g6, g5, g4, g3, g2, g1]
  omega
/-- What Decode makes of bytes, ahead of its question whether they are that command's. -/
def prs (L : List Int) : Cmd :=
  ⟨L.getD 0 0, rdz ((L.drop 4).take 4), rdz ((L.drop 8).take 2), min 9 ((L.length - 20) / 16), (L.drop 20).take (min 9 ((L.length - 20) / 16) * 16), rdz ((L.drop 12).take 8) % 18446744073709551616, rdz ((L.drop 2).take 2), L.getD 1 0 == 1⟩
theorem bytes_length (p : Cmd) : p.bytes.length = 20 + p.bs.length := by simp [Cmd.bytes, Cmd.head, Cmd.mid, be4, be8]; omega
theorem prs_bytes (p : Cmd) (hok : p.ok) (hk : 0 ≤ p.key ∧ p.key < 18446744073709551616) (hl : p.bs.length = p.n * 16) : prs p.bytes = p := by
  obtain ⟨hk1, hk2, hl1, hl2, hc1, hc2, hr1, hr2, hn⟩ := hok
  have hm : min 9 ((p.bytes.length - 20) / 16) = p.n := by rw [bytes_length, hl]; omega
  have q2 : (p.bytes.drop 2).take 2 = [p.res / 256 % 256, p.res % 256] := rfl
  have q4 : (p.bytes.drop 4).take 4 = be4 p.lba := rfl
  have q8 : (p.bytes.drop 8).take 2 = [p.count / 256 % 256, p.count % 256] := rfl
  have q12 : (p.bytes.drop 12).take 8 = be8 p.key := rfl
  have q20 : p.bytes.drop 20 = p.bs := rfl
  have q0 : p.bytes.getD 0 0 = p.kind % 256 := rfl
  have q1 : p.bytes.getD 1 0 = if p.keep then 1 else 0 := rfl
  have v2 := vl_be2 p.res hr1 hr2
  have v4 := vl_be4 p.lba hl1 hl2
  have v8 := vl_be2 p.count hc1 hc2
  have v12 := vl_be8 p.key hk.1 hk.2
  have w2 : rdz [p.res / 256 % 256, p.res % 256] = p.res := (rdz_small _ (by omega) (by omega) (rdz_range _)).trans v2
  have w4 : rdz (be4 p.lba) = p.lba := (rdz_small _ (by omega) (by omega) (rdz_range _)).trans v4
  have w8 : rdz [p.count / 256 % 256, p.count % 256] = p.count := (rdz_small _ (by omega) (by omega) (rdz_range _)).trans v8
  have w12 : rdz (be8 p.key) % 18446744073709551616 = p.key := by rw [rdz_mod, v12]; omega
  have wk : p.kind % 256 = p.kind := by omega
  have wb : ((if p.keep then (1 : Int) else 0) == 1) = p.keep := by cases p.keep <;> rfl
  have wt : p.bs.take (p.n * 16) = p.bs := List.take_of_length_le (by omega)
  unfold prs
  rw [hm, q2, q4, q8, q12, q20, q0, q1, w2, w4, w8, w12, wk, wb, wt]
theorem plain_plain (c : Cmd) : c.plain.plain = c.plain := by
  unfold Cmd.plain
  simp only [Cmd.mk.injEq, true_and]
  refine ⟨?_, ?_, ?_, ?_, ?_, ?_, ?_⟩ <;> (split <;> rfl)
end Go.Proofs.Ytlkibkemmmppcaa.Wd
