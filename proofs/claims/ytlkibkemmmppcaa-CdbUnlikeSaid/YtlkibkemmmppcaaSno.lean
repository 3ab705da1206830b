/- Same of unlike commands, walked. -/
import Derived.Test.YtlkibkemmmppcaaSec
namespace Go.Proofs.Ytlkibkemmmppcaa.Wd
open Go.RowKit
set_option linter.unusedVariables false
set_option linter.unusedSimpArgs false
theorem neT {a b : Int} (h : ¬ a = b) : (a != b) = true := by simpa using h
theorem neF {a b : Int} (h : a = b) : (a != b) = false := by simpa using h
theorem neBT {a b : Bool} (h : ¬ a = b) : (a != b) = true := by simpa using h
theorem neBF {a b : Bool} (h : a = b) : (a != b) = false := by simpa using h
theorem Rd.sform {w : World} {dv : Value} {n : Nat} {xs : List Value} (h1 : Rd w dv n 16 xs) : ∃ A cp, dv = .slice A n cp ∧ n ≤ cp ∧ cp ≤ maxLen ∧ (0 < n → ∃ b off, A = some ⟨b, off, none⟩ ∧ b < w.heap.size) := by
  obtain ⟨_, A, cp, h1, h2, h3, h4, h5⟩ := h1; exact ⟨A, cp, h1, h2, h3, fun h => by obtain ⟨b, off, q1, q2, _⟩ := h5 h; exact ⟨b, off, q1, q2⟩⟩
set_option maxRecDepth 100000 in
set_option maxHeartbeats 8000000 in
theorem same_head (c d : Cmd) (dv ev : Value) (w : World) (h1 : Secs w dv c) (h2 : Secs w ev d) (hne : ¬ (c.n = d.n ∧ c.kind = d.kind ∧ c.lba = d.lba ∧ c.count = d.count ∧ c.key = d.key ∧ c.res = d.res ∧ c.keep = d.keep)) :
    Calls Try.prog 14 #[c.val dv, d.val ev] w fun e w' => e = .returned (.bool false) ∧ Below w.heap.size w w' := by
  obtain ⟨A1, c1, rfl, hn1, hm1, _⟩ := h1.sform
  obtain ⟨A2, c2, rfl, hn2, hm2, _⟩ := h2.sform
  clear h1 h2
  obtain ⟨kind, lba, count, n, bs, key, res, keep⟩ := c
  obtain ⟨kind', lba', count', n', bs', key', res', keep'⟩ := d
  simp only at *
  unfold Cmd.val
  have hBB := two_below w (.cells #[.int .i64 kind, .int .i64 lba, .int .i64 count, .slice A1 n c1, .int .u64 key, .int .i64 res, .bool keep] 25) (.cells #[.int .i64 kind', .int .i64 lba', .int .i64 count', .slice A2 n' c2, .int .u64 key', .int .i64 res', .bool keep'] 25)
  have HBB := Lib.hid hBB
  clear hBB hn1 hm1 hn2 hm2
  have HNE := Lib.hid hne
  clear hne
  by_cases g0 : n = n'
  rotate_left
  · have z0 : ((n : Int) != (n' : Int)) = true := neT (by omega)
    clear g0
    go_enter Try.func14, Try.ntmps14
    go_wp2_with (fail)
    go_ret
    exact ⟨rfl, HBB.out⟩
  have z0 : ((n : Int) != (n' : Int)) = false := neF (by omega)
  have G0 := Lib.hid g0
  clear g0
  by_cases g1 : kind = kind'
  rotate_left
  · have z1 : (kind != kind') = true := neT g1
    clear g1
    go_enter Try.func14, Try.ntmps14
    go_wp2_with (fail)
    go_ret
    exact ⟨rfl, HBB.out⟩
  have z1 : (kind != kind') = false := neF g1
  have G1 := Lib.hid g1
  clear g1
  by_cases g2 : lba = lba'
  rotate_left
  · have z2 : (lba != lba') = true := neT g2
    clear g2
    go_enter Try.func14, Try.ntmps14
    go_wp2_with (fail)
    go_ret
    exact ⟨rfl, HBB.out⟩
  have z2 : (lba != lba') = false := neF g2
  have G2 := Lib.hid g2
  clear g2
  by_cases g3 : count = count'
  rotate_left
  · have z3 : (count != count') = true := neT g3
    clear g3
    go_enter Try.func14, Try.ntmps14
    go_wp2_with (fail)
    go_ret
    exact ⟨rfl, HBB.out⟩
  have z3 : (count != count') = false := neF g3
  have G3 := Lib.hid g3
  clear g3
  by_cases g4 : key = key'
  rotate_left
  · have z4 : (key != key') = true := neT g4
    clear g4
    go_enter Try.func14, Try.ntmps14
    go_wp2_with (fail)
    go_ret
    exact ⟨rfl, HBB.out⟩
  have z4 : (key != key') = false := neF g4
  have G4 := Lib.hid g4
  clear g4
  by_cases g5 : res = res'
  rotate_left
  · have z5 : (res != res') = true := neT g5
    clear g5
    go_enter Try.func14, Try.ntmps14
    go_wp2_with (fail)
    go_ret
    exact ⟨rfl, HBB.out⟩
  have z5 : (res != res') = false := neF g5
  have G5 := Lib.hid g5
  clear g5
  by_cases g6 : keep = keep'
  rotate_left
  · cases keep <;> cases keep'
    · exact absurd rfl g6
    · clear g6
      go_enter Try.func14, Try.ntmps14
      go_wp2_with (fail)
      go_ret
      exact ⟨rfl, HBB.out⟩
    · clear g6
      go_enter Try.func14, Try.ntmps14
      go_wp2_with (fail)
      go_ret
      exact ⟨rfl, HBB.out⟩
    · exact absurd rfl g6
  have G6 := Lib.hid g6
  exact absurd ⟨G0.out, G1.out, G2.out, G3.out, G4.out, G5.out, G6.out⟩ HNE.out
set_option maxRecDepth 100000 in
set_option maxHeartbeats 8000000 in
theorem same_secs (c : Cmd) (bs' : List Int) (dv ev : Value) (w : World) (h1 : Secs w dv c) (h2 : Rd w ev c.n 16 (u8s bs')) (hne : c.bs ≠ bs') :
    Calls Try.prog 14 #[c.val dv, c.val ev] w fun e w' => e = .returned (.bool false) ∧ Below w.heap.size w w' := by
  have hbl : c.bs.length = c.n * 16 := by have := h1.len; unfold u8s at this; simpa using this
  have hbl2 : bs'.length = c.n * 16 := by have := h2.len; unfold u8s at this; simpa using this
  have HNE := Lib.hid hne
  clear hne
  obtain ⟨A1, c1, rfl, hn1, hm1, hz1, hf1⟩ : ∃ A cp, dv = .slice A c.n cp ∧ c.n ≤ cp ∧ cp ≤ maxLen ∧ True ∧ (0 < c.n → ∃ b off, A = some ⟨b, off, none⟩ ∧ b < w.heap.size) := by
    obtain ⟨_, A, cp, h1, h2, h3, h4, h5⟩ := h1; exact ⟨A, cp, h1, h2, h3, trivial, fun h => by obtain ⟨b, off, q1, q2, _⟩ := h5 h; exact ⟨b, off, q1, q2⟩⟩
  obtain ⟨A2, c2, rfl, hn2, hm2, hz2, hf2⟩ : ∃ A cp, ev = .slice A c.n cp ∧ c.n ≤ cp ∧ cp ≤ maxLen ∧ True ∧ (0 < c.n → ∃ b off, A = some ⟨b, off, none⟩ ∧ b < w.heap.size) := by
    obtain ⟨_, A, cp, h1, h2, h3, h4, h5⟩ := h2; exact ⟨A, cp, h1, h2, h3, trivial, fun h => by obtain ⟨b, off, q1, q2, _⟩ := h5 h; exact ⟨b, off, q1, q2⟩⟩
  obtain ⟨kind, lba, count, n, bs, key, res, keep⟩ := c
  simp only [Secs] at *
  have H1 := Lib.hid h1
  have H2 := Lib.hid h2
  have hmx : n ≤ 9223372036854775807 := by unfold maxLen at hm1; omega
  clear h1 h2 hz1 hz2 hm1 hm2
  unfold Cmd.val
  have z1 : (kind != kind) = false := bne_self_eq_false _
  have z2 : (lba != lba) = false := bne_self_eq_false _
  have z3 : (count != count) = false := bne_self_eq_false _
  have z4 : (key != key) = false := bne_self_eq_false _
  have z5 : (res != res) = false := bne_self_eq_false _
  have z6 : (keep != keep) = false := bne_self_eq_false _
  have z7 : ((n : Int) != (n : Int)) = false := bne_self_eq_false _
  have hBB := two_below w (.cells #[.int .i64 kind, .int .i64 lba, .int .i64 count, .slice A1 n c1, .int .u64 key, .int .i64 res, .bool keep] 25) (.cells #[.int .i64 kind, .int .i64 lba, .int .i64 count, .slice A2 n c2, .int .u64 key, .int .i64 res, .bool keep] 25)
  have hXX := two_first w (.cells #[.int .i64 kind, .int .i64 lba, .int .i64 count, .slice A1 n c1, .int .u64 key, .int .i64 res, .bool keep] 25) (.cells #[.int .i64 kind, .int .i64 lba, .int .i64 count, .slice A2 n c2, .int .u64 key, .int .i64 res, .bool keep] 25)
  have hYY := two_last w (.cells #[.int .i64 kind, .int .i64 lba, .int .i64 count, .slice A1 n c1, .int .u64 key, .int .i64 res, .bool keep] 25) (.cells #[.int .i64 kind, .int .i64 lba, .int .i64 count, .slice A2 n c2, .int .u64 key, .int .i64 res, .bool keep] 25)
  go_enter Try.func14, Try.ntmps14
  go_upto_region 3 with (fail)
  clear z1 z2 z3 z4 z5 z6 z7
  generalize hW0 : (w.alloc _).alloc _ = w0 at *
  clear hW0
  have HBB := Lib.hid hBB
  have HXX := Lib.hid hXX
  have HYY := Lib.hid hYY
  clear hBB hXX hYY
  go_wp2_with (fail)
  go_loopg [5] (n) (fun q v5 wr => ∃ i : Nat, i ≤ n ∧ v5 = .int .i64 i ∧ q = n - i ∧ bs.take (i * 16) = bs'.take (i * 16) ∧ Below w0.heap.size w0 wr)
  case atStart => exact ⟨0, by omega, rfl, rfl, by simp, Below.refl _ _⟩
  case round =>
    obtain ⟨i, hi, rfl, hq, hte, hb0⟩ := hrel
    have HTE := Lib.hid hte
    clear hte
    have HQ := Lib.hid hq
    have HB := Lib.hid (HBB.out.trans (hb0.mono HBB.out.size))
    have HB0 := Lib.hid hb0
    have e1 : wr.cell? ⟨w.heap.size, 3, none⟩ = some (.slice A1 n c1) := by rw [cell_of_heap ((hb0.block _ (lt_of_heap HXX.out)).trans HXX.out)]; rfl
    have e2 : wr.cell? ⟨w.heap.size + 1, 3, none⟩ = some (.slice A2 n c2) := by rw [cell_of_heap ((hb0.block _ (lt_of_heap HYY.out)).trans HYY.out)]; rfl
    clear hq hb0
    by_cases hlt : i < n
    · obtain ⟨r1, o1, rfl, hr1⟩ := hf1 (by omega)
      obtain ⟨r2, o2, rfl, hr2⟩ := hf2 (by omega)
      have hcl : (u8s ((bs.drop (i * 16)).take 16)).length = 16 := by unfold u8s; simp; omega
      have hcl2 : ((bs.drop (i * 16)).take 16).length = 16 := by unfold u8s at hcl; simpa using hcl
      have hcl3 : ((bs'.drop (i * 16)).take 16).length = 16 := by simp; omega
      have hI : (Try.prog.info? 41).map (·.size) = some (u8s ((bs.drop (i * 16)).take 16)).length := by rw [hcl]; kernel_rfl
      have HI := Lib.hid hI
      have hI2 : (Try.prog.info? 41).map (·.size) = some (u8s ((bs'.drop (i * 16)).take 16)).length := by unfold u8s; rw [List.length_map, hcl3]; kernel_rfl
      have HI2 := Lib.hid hI2
      have HE := Lib.hid (fun W => eq_sec hcl2 hcl3 W)
      have HSN : Hid ((bs.drop (i * 16)).take 16 = (bs'.drop (i * 16)).take 16 → bs.take ((i + 1) * 16) = bs'.take ((i + 1) * 16)) := Lib.hid (fun h => by rw [Nat.succ_mul, List.take_add, List.take_add, HTE.out, h])
      have heg := eqGuard41
      have hG1 : ∀ W, (W.cell? ⟨w.heap.size, 3, none⟩ = some (.slice (some ⟨r1, o1, none⟩) n c1) ∧ W.cell? ⟨w.heap.size + 1, 3, none⟩ = some (.slice (some ⟨r2, o2, none⟩) n c2) ∧ Below w.heap.size w W) → W.rangeAt r1 (o1 + i * 16) (u8s ((bs.drop (i * 16)).take 16)) := fun W hW => Rd.at H1.out hW.2.2 hlt
      have hG2 : ∀ W, (W.cell? ⟨w.heap.size, 3, none⟩ = some (.slice (some ⟨r1, o1, none⟩) n c1) ∧ W.cell? ⟨w.heap.size + 1, 3, none⟩ = some (.slice (some ⟨r2, o2, none⟩) n c2) ∧ Below w.heap.size w W) → W.rangeAt r2 (o2 + i * 16) (u8s ((bs'.drop (i * 16)).take 16)) := fun W hW => Rd.at H2.out hW.2.2 hlt
      have HG1 := Lib.hid hG1
      have HG2 := Lib.hid hG2
      clear hI hI2 hcl hcl2 hcl3 hG1 hG2
      generalize (bs.drop (i * 16)).take 16 = sec at *
      generalize (bs'.drop (i * 16)).take 16 = sec' at *
      obtain ⟨bq, hbq⟩ : ∃ q, q = decide (sec = sec') := ⟨_, rfl⟩
      rw [← hbq] at HE
      have HBQ := Lib.hid hbq
      clear hbq
      go_upto_region 6 with (fail)
      refine wp_region_held_drew (S := (fun W => W.cell? ⟨w.heap.size, 3, none⟩ = some (.slice (some ⟨r1, o1, none⟩) n c1) ∧ W.cell? ⟨w.heap.size + 1, 3, none⟩ = some (.slice (some ⟨r2, o2, none⟩) n c2) ∧ Below w.heap.size w W)) (by kernel_rfl) ⟨e1, e2, bdrew HB.out⟩ (fun hS => ?_)
      refine wpAnyH_take (i := 0) (v := ?_) rfl (by kernel_rfl) (by kernel_rfl) (by kernel_rfl) (fun _ _ _ h => h) (Or.inl ⟨by rfl, ?_⟩) hS ?_
      rotate_left
      · intro w' hSw; go_simp; try rfl
      try simp only [Act.put, List.getElem_toArray, List.getElem_cons_succ, List.getElem_cons_zero, List.setIfInBounds_toArray, List.set_cons_zero, List.set_cons_succ]
      refine wpAnyH_take (i := 1) (v := ?_) rfl (by kernel_rfl) (by kernel_rfl) (by kernel_rfl) (fun _ _ _ h => h) (Or.inl ⟨by rfl, ?_⟩) hS ?_
      rotate_left
      · intro w' hSw; obtain ⟨s1, s2, s3⟩ := hSw; go_simp; try rfl
      try simp only [Act.put, List.getElem_toArray, List.getElem_cons_succ, List.getElem_cons_zero, List.setIfInBounds_toArray, List.set_cons_zero, List.set_cons_succ]
      refine wpAnyH_take (i := 2) (v := ?_) rfl (by kernel_rfl) (by kernel_rfl) (by kernel_rfl) (fun _ _ _ h => h) (Or.inl ⟨by rfl, ?_⟩) hS ?_
      rotate_left
      · intro w' hSw; go_simp; try rfl
      try simp only [Act.put, List.getElem_toArray, List.getElem_cons_succ, List.getElem_cons_zero, List.setIfInBounds_toArray, List.set_cons_zero, List.set_cons_succ]
      refine wpAnyH_take (i := 3) (v := ?_) rfl (by kernel_rfl) (by kernel_rfl) (by kernel_rfl) (fun _ _ _ h => h) (Or.inl ⟨by rfl, ?_⟩) hS ?_
      rotate_left
      · intro w' hSw; go_simp; try rfl
      try simp only [Act.put, List.getElem_toArray, List.getElem_cons_succ, List.getElem_cons_zero, List.setIfInBounds_toArray, List.set_cons_zero, List.set_cons_succ]
      refine wpAnyH_take (i := 4) rfl (by kernel_rfl) (by kernel_rfl) (by kernel_rfl) (fun _ _ _ h => h) (yieldsIf_load_mid (by rfl) 41 _ rfl r1 _ rfl (u8s sec) _ (fun W hW => HG1.out W hW) Try.underlying41 rfl HI.out) hS ?_
      try simp only [Act.put, List.getElem_toArray, List.getElem_cons_succ, List.getElem_cons_zero, List.setIfInBounds_toArray, List.set_cons_zero, List.set_cons_succ]
      refine wpAnyH_take (i := 5) (v := ?_) rfl (by kernel_rfl) (by kernel_rfl) (by kernel_rfl) (fun _ _ _ h => h) (Or.inl ⟨by rfl, ?_⟩) hS ?_
      rotate_left
      · intro w' hSw; go_simp; try rfl
      try simp only [Act.put, List.getElem_toArray, List.getElem_cons_succ, List.getElem_cons_zero, List.setIfInBounds_toArray, List.set_cons_zero, List.set_cons_succ]
      refine wpAnyH_take (i := 6) (v := ?_) rfl (by kernel_rfl) (by kernel_rfl) (by kernel_rfl) (fun _ _ _ h => h) (Or.inl ⟨by rfl, ?_⟩) hS ?_
      rotate_left
      · intro w' hSw; obtain ⟨s1, s2, s3⟩ := hSw; go_simp; try rfl
      try simp only [Act.put, List.getElem_toArray, List.getElem_cons_succ, List.getElem_cons_zero, List.setIfInBounds_toArray, List.set_cons_zero, List.set_cons_succ]
      refine wpAnyH_take (i := 7) (v := ?_) rfl (by kernel_rfl) (by kernel_rfl) (by kernel_rfl) (fun _ _ _ h => h) (Or.inl ⟨by rfl, ?_⟩) hS ?_
      rotate_left
      · intro w' hSw; go_simp; try rfl
      try simp only [Act.put, List.getElem_toArray, List.getElem_cons_succ, List.getElem_cons_zero, List.setIfInBounds_toArray, List.set_cons_zero, List.set_cons_succ]
      refine wpAnyH_take (i := 8) (v := ?_) rfl (by kernel_rfl) (by kernel_rfl) (by kernel_rfl) (fun _ _ _ h => h) (Or.inl ⟨by rfl, ?_⟩) hS ?_
      rotate_left
      · intro w' hSw; go_simp; try rfl
      try simp only [Act.put, List.getElem_toArray, List.getElem_cons_succ, List.getElem_cons_zero, List.setIfInBounds_toArray, List.set_cons_zero, List.set_cons_succ]
      refine wpAnyH_take (i := 9) rfl (by kernel_rfl) (by kernel_rfl) (by kernel_rfl) (fun _ _ _ h => h) (yieldsIf_load_mid (by rfl) 41 _ rfl r2 _ rfl (u8s sec') _ (fun W hW => HG2.out W hW) Try.underlying41 rfl HI2.out) hS ?_
      try simp only [Act.put, List.getElem_toArray, List.getElem_cons_succ, List.getElem_cons_zero, List.setIfInBounds_toArray, List.set_cons_zero, List.set_cons_succ]
      refine wpAnyH_take (i := 10) (v := ?_) rfl (by kernel_rfl) (by kernel_rfl) (by kernel_rfl) (fun _ _ _ h => h) (Or.inl ⟨by rfl, ?_⟩) hS ?_
      rotate_left
      · intro w' hSw; obtain ⟨s1, s2, s3⟩ := hSw; have q := HE.out w'; go_simp; try rfl
      try simp only [Act.put, List.getElem_toArray, List.getElem_cons_succ, List.getElem_cons_zero, List.setIfInBounds_toArray, List.set_cons_zero, List.set_cons_succ]
      refine wpAnyH_done (by kernel_rfl) ?_ _
      cases bq with
      | true =>
        have HX := Lib.hid (HSN.out (of_decide_eq_true HBQ.out.symm))
        clear HSN HBQ HE
        go_wp2_with (fail)
        go_roundg (n - (i + 1))
        case measure => have := HQ.out; omega
        case rel => exact ⟨i + 1, by omega, by go_num, rfl, HX.out, HB0.out.drew⟩
      | false =>
        clear HSN HBQ HE
        go_wp2_with (fail)
        go_ret
        exact ⟨rfl, bdrew HB.out⟩
    · obtain rfl : i = n := by omega
      exfalso
      apply HNE.out
      have := HTE.out
      rw [List.take_of_length_le (by omega), List.take_of_length_le (by omega)] at this
      exact this
theorem same_no (c d : Cmd) (dv ev : Value) (w : World) (h1 : Secs w dv c) (h2 : Secs w ev d) (hne : c ≠ d) :
    Calls Try.prog 14 #[c.val dv, d.val ev] w fun e w' => e = .returned (.bool false) ∧ Below w.heap.size w w' := by
  by_cases hh : c.n = d.n ∧ c.kind = d.kind ∧ c.lba = d.lba ∧ c.count = d.count ∧ c.key = d.key ∧ c.res = d.res ∧ c.keep = d.keep
  · obtain ⟨kind, lba, count, n, bs, key, res, keep⟩ := c
    obtain ⟨kind', lba', count', n', bs', key', res', keep'⟩ := d
    simp only at hh
    obtain ⟨rfl, rfl, rfl, rfl, rfl, rfl, rfl⟩ := hh
    exact same_secs ⟨kind, lba, count, n, bs, key, res, keep⟩ bs' dv ev w h1 h2 (fun h => hne (by simp only at h; rw [h]))
  · exact same_head c d dv ev w h1 h2 hh
end Go.Proofs.Ytlkibkemmmppcaa.Wd
