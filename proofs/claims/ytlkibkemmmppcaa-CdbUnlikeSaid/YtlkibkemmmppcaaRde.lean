/- The document's Decode, walked. -/
import Derived.Test.YtlkibkemmmppcaaDec
import Derived.Test.YtlkibkemmmppcaaRen
import Derived.Test.YtlkibkemmmppcaaGet
namespace Go.Proofs.Ytlkibkemmmppcaa.Wd
open Go.RowKit
set_option linter.unusedVariables false
set_option linter.unusedSimpArgs false
/-- What the document's Decode makes of bytes. -/
def prs2 (L : List Int) : Cmd :=
  ⟨L.getD 0 0, IntKind.i64.wrap (rdu ((L.drop 4).take 4)), IntKind.i64.wrap (rdu ((L.drop 8).take 2)), (L.length - 20) / 16, L.drop 20, rdu ((L.drop 12).take 8), IntKind.i64.wrap (rdu ((L.drop 2).take 2)), !(L.getD 1 0 == 0)⟩
theorem i64_small (x : Int) (h0 : 0 ≤ x) (h1 : x < 9223372036854775808) : IntKind.i64.wrap x = x := by rw [wrap_eq]; unfold wrap64; omega
theorem prs2_bytes (p : Cmd) (hok : p.ok) (hk : 0 ≤ p.key ∧ p.key < 18446744073709551616) (hl : p.bs.length = p.n * 16) : prs2 p.bytes = p := by
  obtain ⟨hk1, hk2, hl1, hl2, hc1, hc2, hr1, hr2, hn⟩ := hok
  have hm : (p.bytes.length - 20) / 16 = p.n := by rw [bytes_length, hl]; omega
  have q2 : (p.bytes.drop 2).take 2 = [p.res / 256 % 256, p.res % 256] := rfl
  have q4 : (p.bytes.drop 4).take 4 = be4 p.lba := rfl
  have q8 : (p.bytes.drop 8).take 2 = [p.count / 256 % 256, p.count % 256] := rfl
  have q12 : (p.bytes.drop 12).take 8 = be8 p.key := rfl
  have q20 : p.bytes.drop 20 = p.bs := rfl
  have q0 : p.bytes.getD 0 0 = p.kind % 256 := rfl
  have q1 : p.bytes.getD 1 0 = if p.keep then 1 else 0 := rfl
  have v2 := vl_be2 p.res hr1 hr2
  have v4 := vl_be4 p.lba hl1 hl2
  have v8 := vl_be2 p.count hc1 hc2
  have v12 := vl_be8 p.key hk.1 hk.2
  have w2 : IntKind.i64.wrap (rdu [p.res / 256 % 256, p.res % 256]) = p.res := by rw [rdu_mod, v2]; rw [i64_small] <;> omega
  have w4 : IntKind.i64.wrap (rdu (be4 p.lba)) = p.lba := by rw [rdu_mod, v4]; rw [i64_small] <;> omega
  have w8 : IntKind.i64.wrap (rdu [p.count / 256 % 256, p.count % 256]) = p.count := by rw [rdu_mod, v8]; rw [i64_small] <;> omega
  have w12 : rdu (be8 p.key) = p.key := by rw [rdu_mod, v12]; omega
  have wk : p.kind % 256 = p.kind := by omega
  have wb : (!((if p.keep then (1 : Int) else 0) == 0)) = p.keep := by cases p.keep <;> rfl
  unfold prs2
  rw [hm, q2, q4, q8, q12, q20, q0, q1, w2, w4, w8, w12, wk, wb]
/-- A command whose key is one and whose sectors are as many as it says. -/
def Cmd.wf (c : Cmd) : Prop := (0 ≤ c.key ∧ c.key < 18446744073709551616) ∧ c.bs.length = c.n * 16
theorem wf_plain (c : Cmd) (h : c.wf) : c.plain.wf := by
  obtain ⟨h1, h2⟩ := h
  unfold Cmd.plain Cmd.wf
  simp only
  refine ⟨?_, ?_⟩
  · split
    · exact h1
    · omega
  · split
    · exact h2
    · simp
theorem wf_prs (L : List Int) (hl : 20 ≤ L.length) : (prs L).wf := by
  unfold prs Cmd.wf
  simp only
  refine ⟨by omega, ?_⟩
  rw [List.length_take, List.length_drop]
  omega
theorem wf_prs2 (L : List Int) (hl : 20 ≤ L.length) (hr : (L.length - 20) % 16 = 0) : (prs2 L).wf := by
  unfold prs2 Cmd.wf
  simp only
  refine ⟨rdu_range _, ?_⟩
  rw [List.length_drop]
  omega
/-- The two Decodes take the same bytes. -/
theorem prs_prs2 (L : List Int) (hl : 20 ≤ L.length) (hr : (L.length - 20) % 16 = 0) (h : (prs2 L).plain.ok ∧ (prs2 L).plain.bytes = L) : (prs L).plain = (prs2 L).plain ∧ (prs L).plain.ok ∧ (prs L).plain.bytes = L := by
  have hw := wf_plain _ (wf_prs2 L hl hr)
  have e := prs_bytes _ h.1 hw.1 hw.2
  rw [h.2] at e
  have e2 : (prs L).plain = (prs2 L).plain := by rw [e, plain_plain]
  rw [e2]
  exact ⟨rfl, h⟩
theorem prs2_prs (L : List Int) (hl : 20 ≤ L.length) (h : (prs L).plain.ok ∧ (prs L).plain.bytes = L) : L.length ≤ 148 ∧ (L.length - 20) % 16 = 0 ∧ (prs2 L).plain.ok ∧ (prs2 L).plain.bytes = L := by
  have hw := wf_plain _ (wf_prs L hl)
  have e := prs2_bytes _ h.1 hw.1 hw.2
  rw [h.2] at e
  have hz := bytes_length (prs L).plain
  rw [h.2, hw.2] at hz
  have hn := h.1.2.2.2.2.2.2.2.2
  refine ⟨by omega, by omega, ?_⟩
  have e2 : (prs2 L).plain = (prs L).plain := by rw [e, plain_plain]
  rw [e2]
  exact h
/-- The document's loop: k sectors have come in. -/
structure Dr (w0 wr : World) (B5 : Nat) (hd : Cmd) (k : Nat) (dv : Value) (L : List Int) : Prop where
  res : wr.heap[w0.heap.size]? = some (.cells #[.int .i64 0, .int .i64 0, .int .i64 0, .slice none 0 0, .int .u64 0, .int .i64 0, .bool false] 25 (0, 0))
  cmd : wr.heap[B5]? = some (.cells #[.int .i64 hd.kind, .int .i64 hd.lba, .int .i64 hd.count, dv, .int .u64 hd.key, .int .i64 hd.res, .bool hd.keep] 25 (0, 0))
  row : wr.ownsRow w0.heap.size 41 16 dv k (u8s L)
  below : Below w0.heap.size w0 wr
  far : w0.heap.size < B5
theorem Dr.kept {w0 wr w' : World} {B5 : Nat} {hd : Cmd} {k : Nat} {dv : Value} {L : List Int} (h : Dr w0 wr B5 hd k dv L) (hb : Below wr.heap.size wr w') : Dr w0 w' B5 hd k dv L :=
  ⟨(hb.block _ (lt_of_heap h.res)).trans h.res, (hb.block _ (lt_of_heap h.cmd)).trans h.cmd, own_below h.row hb, h.below.trans (hb.mono h.below.size), h.far⟩
theorem Dr.push {w0 wr : World} {B5 : Nat} {hd : Cmd} {k : Nat} {dv : Value} {L : List Int} (h : Dr w0 wr B5 hd k dv L) (sec : List Int) (hs : sec.length = 16) (hk : k ≤ 8) :
    ∃ v' w1, (Builtin.append_ #[22, 22] 22 #[dv, .slice (some ⟨wr.heap.size, 0, none⟩) 1 1]).run Try.prog (wr.alloc (.cells (u8s sec).toArray 41)) = .ok v' w1 ∧ w1.cell? ⟨B5, 3, none⟩ = some dv ∧ w1.frozen? ⟨B5, 3, none⟩ = false ∧ Dr w0 (w1.setCell ⟨B5, 3, none⟩ v') B5 hd (k + 1) v' (L ++ sec) := by
  have h1 := h.kept (balloc wr (.cells (u8s sec).toArray 41))
  have hz : (u8s sec).length = 16 := by unfold u8s; simp [hs]
  have hu : Rd (wr.alloc (.cells (u8s sec).toArray 41)) (.slice (some ⟨wr.heap.size, 0, none⟩) 1 1) 1 16 (u8s sec) := by
    refine ⟨by omega, _, 1, rfl, by omega, by unfold maxLen; omega, (fun h => by cases h), fun _ => ⟨wr.heap.size, 0, rfl, by simp, fun j u hu => ?_⟩⟩
    rw [cell_of_heap (heap_alloc_new wr _), Nat.zero_add]
    simpa using hu
  obtain ⟨v', w1, hr, ho, hg, hb⟩ := cat_secs _ _ _ _ _ _ _ _ h1.row hu (u8s_one _) (by omega) h1.below.size
  have hO := Only.grown hg
  have hne : ∀ g cs, (wr.alloc (.cells (u8s sec).toArray 41)).heap[g]? = some (.cells cs 25 (0, 0)) → g ∉ dv.ownBlock.toList := fun g cs hg hm => own_blk h1.row hg (by decide) (by simpa using hm)
  have c1 := (hO.block _ (lt_of_heap h1.cmd) (hne _ _ h1.cmd)).trans h1.cmd
  have r1 := (hO.block _ (lt_of_heap h1.res) (hne _ _ h1.res)).trans h1.res
  have hb1 : Below w0.heap.size w0 w1 := Only.below h1.below hO h1.below.size (fun x hx => by have := (h1.row.lt x (by simpa using hx)).1; omega)
  have hf := h.far
  have hne3 : v'.ownBlock ≠ some B5 := own_blk ho c1 (by decide)
  refine ⟨v', w1, hr, by rw [cell_of_heap c1]; rfl, frozen_of_heap c1 3, ?_, ?_, ?_, ?_, hf⟩
  · rw [heap_setCell_ne (by omega)]; exact r1
  · exact heap_set c1 3 v'
  · unfold u8s at *; rw [List.map_append]; exact own_kept ho (Only.set (p := ⟨B5, 3, none⟩) _) (fun k hk hm => by simp at hm; subst hm; exact hne3 hk)
  · exact Only.below hb1 (Only.set (p := ⟨B5, 3, none⟩) _) hb1.size (by simp; omega)
/-- A sector of which j bytes have come in. -/
def part (sec : List Int) (j : Nat) : List Int := sec.take j ++ List.replicate (16 - j) 0
theorem part_set (sec : List Int) (hs : sec.length = 16) (j : Nat) (hj : j < 16) (x : Int) (hx : sec[j]? = some x) : (u8s (part sec j)).toArray.setIfInBounds j (.int .u8 x) = (u8s (part sec (j + 1))).toArray := by
  rw [List.setIfInBounds_toArray]
  congr 1
  unfold u8s part
  rw [← List.map_set, List.set_append_right _ _ (by simp [hs]; omega), List.take_add_one, hx]
  rw [List.length_take, hs, Nat.min_eq_left (by omega), Nat.sub_self, show 16 - j = (16 - (j + 1)) + 1 by omega, List.replicate_succ, List.set_cons_zero]
  simp
theorem part_at (sec : List Int) (hs : sec.length = 16) (j : Nat) (hj : j < 16) : ∃ z, (u8s (part sec j)).toArray[j]? = some (.int .u8 z) := by
  have hl : j < (part sec j).length := by unfold part; simp [hs]; omega
  refine ⟨(part sec j)[j], ?_⟩
  unfold u8s
  rw [List.getElem?_toArray, List.getElem?_map, List.getElem?_eq_getElem hl]; rfl
theorem exec_rbuild_cmd {o : Oper} {a : Act} {w : World} (ho : o.op = .build 25 #[(0, .tmp 29), (6, .tmp 33), (5, .tmp 36), (1, .tmp 39), (2, .tmp 42), (4, .tmp 44)]) (b0 z4 z8 zk z2 : Int) (kp : Bool)
    (h0 : a.eval (.tmp 29) = .int .i64 b0) (h6 : a.eval (.tmp 33) = .bool kp) (h5 : a.eval (.tmp 36) = .int .i64 z2) (h1 : a.eval (.tmp 39) = .int .i64 z4) (h2 : a.eval (.tmp 42) = .int .i64 z8) (h4 : a.eval (.tmp 44) = .int .u64 zk) :
    (execOp a.eval o).run Try.prog w = .ok (.value (.agg #[.int .i64 b0, .int .i64 z4, .int .i64 z8, .slice none 0 0, .int .u64 zk, .int .i64 z2, .bool kp])) w :=
  exec_build 25 [(0, .tmp 29), (6, .tmp 33), (5, .tmp 36), (1, .tmp 39), (2, .tmp 42), (4, .tmp 44)] ho [(0, .int .i64 b0), (6, .bool kp), (5, .int .i64 z2), (1, .int .i64 z4), (2, .int .i64 z8), (4, .int .u64 zk)] (by simp only [List.map_cons, List.map_nil, h0, h6, h5, h1, h2, h4]) _ (built_cmd _ _ _ _ _ _)
set_option maxRecDepth 100000 in
set_option maxHeartbeats 8000000 in
theorem rdec_long (v : Value) (n : Nat) (bs : List Int) (w : World) (h : Rd w v n 1 (u8s bs)) (hn : 20 ≤ n) (hn2 : n ≤ 148) (hr16 : (n - 20) % 16 = 0) (hby : ∀ x ∈ bs, 0 ≤ x ∧ x ≤ 255) :
    Calls Try.prog 16 #[v] w (DecPost w bs) := by
  obtain ⟨A, cap, rfl, hc1, hc2, hA⟩ := h.bform
  obtain ⟨b, off, rfl, hbl⟩ := hA (by omega)
  have hlen := h.blen
  have hcm : cap ≤ 9223372036854775807 := by unfold maxLen at hc2; omega
  have HBY := Lib.hid hby
  have H := Lib.hid h
  have RD : ∀ (fr k : Nat) (W : World), fr + k ≤ 20 → Below w.heap.size w W → Calls Try.prog 24 #[.slice (some ⟨b, off, none⟩) n cap, .int .i64 (fr : Int), .int .i64 (k : Int)] W fun e w' => e = .returned (.int .u64 (rdu ((bs.drop fr).take k))) ∧ w' = W :=
    fun fr k W h1 h4 => get_any b off n cap bs W fr k (H.out.below h4) (by omega) HBY.out
  have R2 := Lib.hid (show ∀ W : World, Below w.heap.size w W → Calls Try.prog 24 #[.slice (some ⟨b, off, none⟩) n cap, .int .i64 2, .int .i64 2] W fun e w' => e = .returned (.int .u64 (rdu ((bs.drop 2).take 2))) ∧ w' = W from fun W h4 => RD 2 2 W (by omega) h4)
  have R4 := Lib.hid (show ∀ W : World, Below w.heap.size w W → Calls Try.prog 24 #[.slice (some ⟨b, off, none⟩) n cap, .int .i64 4, .int .i64 4] W fun e w' => e = .returned (.int .u64 (rdu ((bs.drop 4).take 4))) ∧ w' = W from fun W h4 => RD 4 4 W (by omega) h4)
  have R8 := Lib.hid (show ∀ W : World, Below w.heap.size w W → Calls Try.prog 24 #[.slice (some ⟨b, off, none⟩) n cap, .int .i64 8, .int .i64 2] W fun e w' => e = .returned (.int .u64 (rdu ((bs.drop 8).take 2))) ∧ w' = W from fun W h4 => RD 8 2 W (by omega) h4)
  have R12 := Lib.hid (show ∀ W : World, Below w.heap.size w W → Calls Try.prog 24 #[.slice (some ⟨b, off, none⟩) n cap, .int .i64 12, .int .i64 8] W fun e w' => e = .returned (.int .u64 (rdu ((bs.drop 12).take 8))) ∧ w' = W from fun W h4 => RD 12 8 W (by omega) h4)
  obtain ⟨b0, hb0⟩ : ∃ x, bs[0]? = some x := ⟨_, List.getElem?_eq_getElem (by omega)⟩
  obtain ⟨b1, hb1⟩ : ∃ x, bs[1]? = some x := ⟨_, List.getElem?_eq_getElem (by omega)⟩
  have HB0 := Lib.hid (fun W (hW : Below w.heap.size w W) => H.out.byte hW hb0)
  have HB1 := Lib.hid (fun W (hW : Below w.heap.size w W) => H.out.byte hW hb1)
  have HW0 : Hid (IntKind.i64.wrap b0 = b0) := Lib.hid (by
    have hb := HBY.out b0 (List.mem_of_getElem? hb0)
    exact i64_small _ (by omega) (by omega))
  have HE0 := Lib.hid hb0
  have HE1 := Lib.hid hb1
  clear h hA hby RD hb0 hb1
  generalize hqz2 : rdu ((bs.drop 2).take 2) = z2 at *
  have HQz2 := Lib.hid hqz2
  clear hqz2
  generalize hqz4 : rdu ((bs.drop 4).take 4) = z4 at *
  have HQz4 := Lib.hid hqz4
  clear hqz4
  generalize hqz8 : rdu ((bs.drop 8).take 2) = z8 at *
  have HQz8 := Lib.hid hqz8
  clear hqz8
  generalize hqz12 : rdu ((bs.drop 12).take 8) = z12 at *
  have HQz12 := Lib.hid hqz12
  clear hqz12
  have hy1 := heap_alloc_new w (.cells #[.int .i64 0, .int .i64 0, .int .i64 0, .slice none 0 0, .int .u64 0, .int .i64 0, .bool false] 25)
  have hB1 := balloc w (.cells #[.int .i64 0, .int .i64 0, .int .i64 0, .slice none 0 0, .int .u64 0, .int .i64 0, .bool false] 25)
  have HR16 := Lib.hid hr16
  have e1 : decide ((n : Int) < 20) = false := decide_eq_false (by omega)
  have e2 : decide ((148 : Int) < (n : Int)) = false := decide_eq_false (by omega)
  have e3 : Int.tmod ((n : Int) - 20) 16 = 0 := by rw [Int.tmod_eq_emod_of_nonneg (by omega)]; omega
  have e4 : ((n : Int) - 20) % 16 = 0 := by omega
  have e5 : (0 : Int) ≤ (n : Int) - 20 := by omega
  clear hr16
  go_enter Try.func16, Try.ntmps16
  go_upto_region 3 with (fail)
  clear e1 e2 e3 e4 e5
  generalize hW2 : w.alloc _ = w2 at *
  clear hW2
  have HY2 := Lib.hid hy1
  have HBB2 := Lib.hid hB1
  clear hy1 hB1
  have e20 : 0 < n := by omega
  have e21 : 1 < n := by omega
  have e22 : (1 : Int) < (n : Int) := by omega
  have e23 : (0 : Int) < (n : Int) := by omega
  have e24 : ¬ n ≤ 1 := by omega
  go_cut [4] (fun v5 wx => v5 = .pointer (some ⟨w2.heap.size, 0, none⟩) ∧ wx = (w2.alloc (.cells #[.int .i64 b0, .int .i64 (IntKind.i64.wrap z4), .int .i64 (IntKind.i64.wrap z8), .slice none 0 0, .int .u64 z12, .int .i64 (IntKind.i64.wrap z2), .bool (!(b1 == 0))] 25)).drew)
  case first =>
    as_aux_lemma =>
      refine wp_region_held_drew (S := fun W => Below w.heap.size w W) (by kernel_rfl) HBB2.out.drew (fun hS => ?_)
      refine wpAnyH_take (i := 0) (v := ?_) rfl (by kernel_rfl) (by kernel_rfl) (by kernel_rfl) (fun _ _ _ h => h) (Or.inl ⟨by rfl, ?_⟩) hS ?_
      rotate_left
      · intro w' hSw; go_simp; try rfl
      try simp only [Act.put, List.getElem_toArray, List.getElem_cons_succ, List.getElem_cons_zero, List.setIfInBounds_toArray, List.set_cons_zero, List.set_cons_succ]
      refine wpAnyH_take (i := 1) (v := ?_) rfl (by kernel_rfl) (by kernel_rfl) (by kernel_rfl) (fun _ _ _ h => h) (Or.inl ⟨by rfl, ?_⟩) hS ?_
      rotate_left
      · intro w' hSw; go_simp; try rfl
      try simp only [Act.put, List.getElem_toArray, List.getElem_cons_succ, List.getElem_cons_zero, List.setIfInBounds_toArray, List.set_cons_zero, List.set_cons_succ]
      refine wpAnyH_take (i := 2) (v := ?_) rfl (by kernel_rfl) (by kernel_rfl) (by kernel_rfl) (fun _ _ _ h => h) (Or.inl ⟨by rfl, ?_⟩) hS ?_
      rotate_left
      · intro w' hSw; have q0 := HB0.out w' hSw; rw [Nat.add_zero] at q0; go_simp; try rfl
      try simp only [Act.put, List.getElem_toArray, List.getElem_cons_succ, List.getElem_cons_zero, List.setIfInBounds_toArray, List.set_cons_zero, List.set_cons_succ]
      refine wpAnyH_take (i := 3) (v := ?_) rfl (by kernel_rfl) (by kernel_rfl) (by kernel_rfl) (fun _ _ _ h => h) (Or.inl ⟨by rfl, ?_⟩) hS ?_
      rotate_left
      · intro w' hSw; go_simp; try rfl
      try simp only [Act.put, List.getElem_toArray, List.getElem_cons_succ, List.getElem_cons_zero, List.setIfInBounds_toArray, List.set_cons_zero, List.set_cons_succ]
      refine wpAnyH_take (i := 4) (v := ?_) rfl (by kernel_rfl) (by kernel_rfl) (by kernel_rfl) (fun _ _ _ h => h) (Or.inl ⟨by rfl, ?_⟩) hS ?_
      rotate_left
      · intro w' hSw; go_simp; try rfl
      try simp only [Act.put, List.getElem_toArray, List.getElem_cons_succ, List.getElem_cons_zero, List.setIfInBounds_toArray, List.set_cons_zero, List.set_cons_succ]
      refine wpAnyH_take (i := 5) (v := ?_) rfl (by kernel_rfl) (by kernel_rfl) (by kernel_rfl) (fun _ _ _ h => h) (Or.inl ⟨by rfl, ?_⟩) hS ?_
      rotate_left
      · intro w' hSw; go_simp; try rfl
      try simp only [Act.put, List.getElem_toArray, List.getElem_cons_succ, List.getElem_cons_zero, List.setIfInBounds_toArray, List.set_cons_zero, List.set_cons_succ]
      refine wpAnyH_take (i := 6) (v := ?_) rfl (by kernel_rfl) (by kernel_rfl) (by kernel_rfl) (fun _ _ _ h => h) (Or.inl ⟨by rfl, ?_⟩) hS ?_
      rotate_left
      · intro w' hSw; have q1 := HB1.out w' hSw; go_simp; try rfl
      try simp only [Act.put, List.getElem_toArray, List.getElem_cons_succ, List.getElem_cons_zero, List.setIfInBounds_toArray, List.set_cons_zero, List.set_cons_succ]
      refine wpAnyH_take (i := 7) (v := ?_) rfl (by kernel_rfl) (by kernel_rfl) (by kernel_rfl) (fun _ _ _ h => h) (Or.inl ⟨by rfl, ?_⟩) hS ?_
      rotate_left
      · intro w' hSw; go_simp; try rfl
      try simp only [Act.put, List.getElem_toArray, List.getElem_cons_succ, List.getElem_cons_zero, List.setIfInBounds_toArray, List.set_cons_zero, List.set_cons_succ]
      refine wpAnyH_take (i := 8) (v := ?_) rfl (by kernel_rfl) (by kernel_rfl) (by kernel_rfl) (fun _ _ _ h => h) (Or.inl ⟨by rfl, ?_⟩) hS ?_
      rotate_left
      · intro w' hSw; go_simp; try rfl
      try simp only [Act.put, List.getElem_toArray, List.getElem_cons_succ, List.getElem_cons_zero, List.setIfInBounds_toArray, List.set_cons_zero, List.set_cons_succ]
      refine wpAnyH_take (i := 11) (v := ?_) rfl (by kernel_rfl) (by kernel_rfl) (by kernel_rfl) (fun _ _ _ h => h) (Or.inl ⟨by rfl, ?_⟩) hS ?_
      rotate_left
      · intro w' hSw; go_simp; try rfl
      try simp only [Act.put, List.getElem_toArray, List.getElem_cons_succ, List.getElem_cons_zero, List.setIfInBounds_toArray, List.set_cons_zero, List.set_cons_succ]
      refine wpAnyH_take (i := 14) (v := ?_) rfl (by kernel_rfl) (by kernel_rfl) (by kernel_rfl) (fun _ _ _ h => h) (Or.inl ⟨by rfl, ?_⟩) hS ?_
      rotate_left
      · intro w' hSw; go_simp; try rfl
      try simp only [Act.put, List.getElem_toArray, List.getElem_cons_succ, List.getElem_cons_zero, List.setIfInBounds_toArray, List.set_cons_zero, List.set_cons_succ]
      refine wpAnyH_take (i := 17) (v := ?_) rfl (by kernel_rfl) (by kernel_rfl) (by kernel_rfl) (fun _ _ _ h => h) (Or.inl ⟨by rfl, ?_⟩) hS ?_
      rotate_left
      · intro w' hSw; go_simp; try rfl
      try simp only [Act.put, List.getElem_toArray, List.getElem_cons_succ, List.getElem_cons_zero, List.setIfInBounds_toArray, List.set_cons_zero, List.set_cons_succ]
      refine wpAnyH_ready (rs := [9, 20]) (by kernel_rfl) (by simp) ?_
      refine AllReadyH.cons rfl (fun K hK => ?_) ?_
      · go_simp
        refine (R2.out _ hS).mono ?_
        rintro e wy ⟨rfl, rfl⟩
        have hT := hS
        go_wp2_with (fail)
        refine hK.out _ _ hT (fun hU => ?_)
        clear hK K hU hS
        have hS := hT
        clear hT
        try simp only [Act.put, List.getElem_toArray, List.getElem_cons_succ, List.getElem_cons_zero, List.setIfInBounds_toArray, List.set_cons_zero, List.set_cons_succ]
        refine wpAnyH_take (i := 10) (v := ?_) rfl (by kernel_rfl) (by kernel_rfl) (by kernel_rfl) (fun _ _ _ h => h) (Or.inl ⟨by rfl, ?_⟩) hS ?_
        rotate_left
        · intro w' hSw; go_simp; try rfl
        try simp only [Act.put, List.getElem_toArray, List.getElem_cons_succ, List.getElem_cons_zero, List.setIfInBounds_toArray, List.set_cons_zero, List.set_cons_succ]
        refine wpAnyH_ready (rs := [12, 20]) (by kernel_rfl) (by simp) ?_
        refine AllReadyH.cons rfl (fun K hK => ?_) ?_
        · go_simp
          refine (R4.out _ hS).mono ?_
          rintro e wy ⟨rfl, rfl⟩
          have hT := hS
          go_wp2_with (fail)
          refine hK.out _ _ hT (fun hU => ?_)
          clear hK K hU hS
          have hS := hT
          clear hT
          try simp only [Act.put, List.getElem_toArray, List.getElem_cons_succ, List.getElem_cons_zero, List.setIfInBounds_toArray, List.set_cons_zero, List.set_cons_succ]
          refine wpAnyH_take (i := 13) (v := ?_) rfl (by kernel_rfl) (by kernel_rfl) (by kernel_rfl) (fun _ _ _ h => h) (Or.inl ⟨by rfl, ?_⟩) hS ?_
          rotate_left
          · intro w' hSw; go_simp; try rfl
          try simp only [Act.put, List.getElem_toArray, List.getElem_cons_succ, List.getElem_cons_zero, List.setIfInBounds_toArray, List.set_cons_zero, List.set_cons_succ]
          refine wpAnyH_ready (rs := [15, 20]) (by kernel_rfl) (by simp) ?_
          refine AllReadyH.cons rfl (fun K hK => ?_) ?_
          · go_simp
            refine (R8.out _ hS).mono ?_
            rintro e wy ⟨rfl, rfl⟩
            have hT := hS
            go_wp2_with (fail)
            refine hK.out _ _ hT (fun hU => ?_)
            clear hK K hU hS
            have hS := hT
            clear hT
            try simp only [Act.put, List.getElem_toArray, List.getElem_cons_succ, List.getElem_cons_zero, List.setIfInBounds_toArray, List.set_cons_zero, List.set_cons_succ]
            refine wpAnyH_take (i := 16) (v := ?_) rfl (by kernel_rfl) (by kernel_rfl) (by kernel_rfl) (fun _ _ _ h => h) (Or.inl ⟨by rfl, ?_⟩) hS ?_
            rotate_left
            · intro w' hSw; go_simp; try rfl
            try simp only [Act.put, List.getElem_toArray, List.getElem_cons_succ, List.getElem_cons_zero, List.setIfInBounds_toArray, List.set_cons_zero, List.set_cons_succ]
            refine wpAnyH_ready (rs := [18, 20]) (by kernel_rfl) (by simp) ?_
            refine AllReadyH.cons rfl (fun K hK => ?_) ?_
            · go_simp
              refine (R12.out _ hS).mono ?_
              rintro e wy ⟨rfl, rfl⟩
              have hT := hS
              go_wp2_with (fail)
              refine hK.out _ _ hT (fun hU => ?_)
              clear hK K hU hS
              have hS := hT
              clear hT
              try simp only [Act.put, List.getElem_toArray, List.getElem_cons_succ, List.getElem_cons_zero, List.setIfInBounds_toArray, List.set_cons_zero, List.set_cons_succ]
              refine wpAnyH_take (i := 19) (v := .agg #[.int .i64 (IntKind.i64.wrap b0), .int .i64 (IntKind.i64.wrap z4), .int .i64 (IntKind.i64.wrap z8), .slice none 0 0, .int .u64 z12, .int .i64 (IntKind.i64.wrap z2), .bool (!(b1 == 0))]) rfl (by kernel_rfl) (by kernel_rfl) (by kernel_rfl) (fun _ _ _ h => h) (Or.inl ⟨by rfl, fun w' hSw => ?_⟩) hS ?_
              · exact exec_rbuild_cmd (by rfl) (IntKind.i64.wrap b0) (IntKind.i64.wrap z4) (IntKind.i64.wrap z8) z12 (IntKind.i64.wrap z2) (!(b1 == 0)) (by rfl) (by rfl) (by rfl) (by rfl) (by rfl) (by rfl)
              try simp only [Act.put, List.getElem_toArray, List.getElem_cons_succ, List.getElem_cons_zero, List.setIfInBounds_toArray, List.set_cons_zero, List.set_cons_succ]
              refine wpAnyH_ready (rs := [20]) (by kernel_rfl) (by simp) ?_
              refine AllReadyH.cons rfl (fun K hK => ?_) AllReadyH.nil
              have hT : ∀ o : Obj, Below w.heap.size w (w2.alloc o).drew := fun o => bdrew (HBB2.out.alloc (by have := HBB2.out.size; omega) _)
              go_simp
              refine hK.out _ _ (hT _) (fun hU => ?_)
              clear hK K hU hS
              have hS := hT (.cells #[.int .i64 0, .int .i64 0, .int .i64 0, .slice none 0 0, .int .u64 0, .int .i64 0, .bool false] 25)
              clear hT
              try simp only [Act.put, List.getElem_toArray, List.getElem_cons_succ, List.getElem_cons_zero, List.setIfInBounds_toArray, List.set_cons_zero, List.set_cons_succ]
              refine wpAnyH_ready (rs := [21]) (by kernel_rfl) (by simp) ?_
              refine AllReadyH.cons rfl (fun K hK => ?_) AllReadyH.nil
              have hT : ∀ o : Obj, Below w.heap.size w (w2.alloc o).drew := fun o => bdrew (HBB2.out.alloc (by have := HBB2.out.size; omega) _)
              go_simp
              refine hK.out _ _ (hT _) (fun hU => ?_)
              clear hK K hU hS hT
              refine wpAnyH_done (by kernel_rfl) ?_ _
              go_wp2_with (fail)
              go_meet
              refine ⟨rfl, ?_⟩
              rw [HW0.out]
            · refine AllReadyH.cons rfl (fun K hK => ?_) AllReadyH.nil
              have hT : ∀ o : Obj, Below w.heap.size w (w2.alloc o).drew := fun o => bdrew (HBB2.out.alloc (by have := HBB2.out.size; omega) _)
              go_simp
              refine hK.out _ _ (hT _) (fun hU => ?_)
              clear hK K hU hS
              have hS := hT (.cells #[.int .i64 0, .int .i64 0, .int .i64 0, .slice none 0 0, .int .u64 0, .int .i64 0, .bool false] 25)
              clear hT
              try simp only [Act.put, List.getElem_toArray, List.getElem_cons_succ, List.getElem_cons_zero, List.setIfInBounds_toArray, List.set_cons_zero, List.set_cons_succ]
              refine wpAnyH_ready (rs := [18]) (by kernel_rfl) (by simp) ?_
              refine AllReadyH.cons rfl (fun K hK => ?_) AllReadyH.nil
              go_simp
              refine (R12.out _ hS).mono ?_
              rintro e wy ⟨rfl, rfl⟩
              have hT := hS
              go_wp2_with (fail)
              refine hK.out _ _ hT (fun hU => ?_)
              clear hK K hU hS
              have hS := hT
              clear hT
              try simp only [Act.put, List.getElem_toArray, List.getElem_cons_succ, List.getElem_cons_zero, List.setIfInBounds_toArray, List.set_cons_zero, List.set_cons_succ]
              refine wpAnyH_take (i := 19) (v := .agg #[.int .i64 (IntKind.i64.wrap b0), .int .i64 (IntKind.i64.wrap z4), .int .i64 (IntKind.i64.wrap z8), .slice none 0 0, .int .u64 z12, .int .i64 (IntKind.i64.wrap z2), .bool (!(b1 == 0))]) rfl (by kernel_rfl) (by kernel_rfl) (by kernel_rfl) (fun _ _ _ h => h) (Or.inl ⟨by rfl, fun w' hSw => ?_⟩) hS ?_
              · exact exec_rbuild_cmd (by rfl) (IntKind.i64.wrap b0) (IntKind.i64.wrap z4) (IntKind.i64.wrap z8) z12 (IntKind.i64.wrap z2) (!(b1 == 0)) (by rfl) (by rfl) (by rfl) (by rfl) (by rfl) (by rfl)
              try simp only [Act.put, List.getElem_toArray, List.getElem_cons_succ, List.getElem_cons_zero, List.setIfInBounds_toArray, List.set_cons_zero, List.set_cons_succ]
              refine wpAnyH_ready (rs := [21]) (by kernel_rfl) (by simp) ?_
              refine AllReadyH.cons rfl (fun K hK => ?_) AllReadyH.nil
              have hT : ∀ o : Obj, Below w.heap.size w (w2.alloc o).drew := fun o => bdrew (HBB2.out.alloc (by have := HBB2.out.size; omega) _)
              go_simp
              refine hK.out _ _ (hT _) (fun hU => ?_)
              clear hK K hU hS hT
              refine wpAnyH_done (by kernel_rfl) ?_ _
              go_wp2_with (fail)
              go_meet
              refine ⟨rfl, ?_⟩
              rw [HW0.out]
          · refine AllReadyH.cons rfl (fun K hK => ?_) AllReadyH.nil
            have hT : ∀ o : Obj, Below w.heap.size w (w2.alloc o).drew := fun o => bdrew (HBB2.out.alloc (by have := HBB2.out.size; omega) _)
            go_simp
            refine hK.out _ _ (hT _) (fun hU => ?_)
            clear hK K hU hS
            have hS := hT (.cells #[.int .i64 0, .int .i64 0, .int .i64 0, .slice none 0 0, .int .u64 0, .int .i64 0, .bool false] 25)
            clear hT
            try simp only [Act.put, List.getElem_toArray, List.getElem_cons_succ, List.getElem_cons_zero, List.setIfInBounds_toArray, List.set_cons_zero, List.set_cons_succ]
            refine wpAnyH_ready (rs := [15]) (by kernel_rfl) (by simp) ?_
            refine AllReadyH.cons rfl (fun K hK => ?_) AllReadyH.nil
            go_simp
            refine (R8.out _ hS).mono ?_
            rintro e wy ⟨rfl, rfl⟩
            have hT := hS
            go_wp2_with (fail)
            refine hK.out _ _ hT (fun hU => ?_)
            clear hK K hU hS
            have hS := hT
            clear hT
            try simp only [Act.put, List.getElem_toArray, List.getElem_cons_succ, List.getElem_cons_zero, List.setIfInBounds_toArray, List.set_cons_zero, List.set_cons_succ]
            refine wpAnyH_take (i := 16) (v := ?_) rfl (by kernel_rfl) (by kernel_rfl) (by kernel_rfl) (fun _ _ _ h => h) (Or.inl ⟨by rfl, ?_⟩) hS ?_
            rotate_left
            · intro w' hSw; go_simp; try rfl
            try simp only [Act.put, List.getElem_toArray, List.getElem_cons_succ, List.getElem_cons_zero, List.setIfInBounds_toArray, List.set_cons_zero, List.set_cons_succ]
            refine wpAnyH_ready (rs := [18]) (by kernel_rfl) (by simp) ?_
            refine AllReadyH.cons rfl (fun K hK => ?_) AllReadyH.nil
            go_simp
            refine (R12.out _ hS).mono ?_
            rintro e wy ⟨rfl, rfl⟩
            have hT := hS
            go_wp2_with (fail)
            refine hK.out _ _ hT (fun hU => ?_)
            clear hK K hU hS
            have hS := hT
            clear hT
            try simp only [Act.put, List.getElem_toArray, List.getElem_cons_succ, List.getElem_cons_zero, List.setIfInBounds_toArray, List.set_cons_zero, List.set_cons_succ]
            refine wpAnyH_take (i := 19) (v := .agg #[.int .i64 (IntKind.i64.wrap b0), .int .i64 (IntKind.i64.wrap z4), .int .i64 (IntKind.i64.wrap z8), .slice none 0 0, .int .u64 z12, .int .i64 (IntKind.i64.wrap z2), .bool (!(b1 == 0))]) rfl (by kernel_rfl) (by kernel_rfl) (by kernel_rfl) (fun _ _ _ h => h) (Or.inl ⟨by rfl, fun w' hSw => ?_⟩) hS ?_
            · exact exec_rbuild_cmd (by rfl) (IntKind.i64.wrap b0) (IntKind.i64.wrap z4) (IntKind.i64.wrap z8) z12 (IntKind.i64.wrap z2) (!(b1 == 0)) (by rfl) (by rfl) (by rfl) (by rfl) (by rfl) (by rfl)
            try simp only [Act.put, List.getElem_toArray, List.getElem_cons_succ, List.getElem_cons_zero, List.setIfInBounds_toArray, List.set_cons_zero, List.set_cons_succ]
            refine wpAnyH_ready (rs := [21]) (by kernel_rfl) (by simp) ?_
            refine AllReadyH.cons rfl (fun K hK => ?_) AllReadyH.nil
            have hT : ∀ o : Obj, Below w.heap.size w (w2.alloc o).drew := fun o => bdrew (HBB2.out.alloc (by have := HBB2.out.size; omega) _)
            go_simp
            refine hK.out _ _ (hT _) (fun hU => ?_)
            clear hK K hU hS hT
            refine wpAnyH_done (by kernel_rfl) ?_ _
            go_wp2_with (fail)
            go_meet
            refine ⟨rfl, ?_⟩
            rw [HW0.out]
        · refine AllReadyH.cons rfl (fun K hK => ?_) AllReadyH.nil
          have hT : ∀ o : Obj, Below w.heap.size w (w2.alloc o).drew := fun o => bdrew (HBB2.out.alloc (by have := HBB2.out.size; omega) _)
          go_simp
          refine hK.out _ _ (hT _) (fun hU => ?_)
          clear hK K hU hS
          have hS := hT (.cells #[.int .i64 0, .int .i64 0, .int .i64 0, .slice none 0 0, .int .u64 0, .int .i64 0, .bool false] 25)
          clear hT
          try simp only [Act.put, List.getElem_toArray, List.getElem_cons_succ, List.getElem_cons_zero, List.setIfInBounds_toArray, List.set_cons_zero, List.set_cons_succ]
          refine wpAnyH_ready (rs := [12]) (by kernel_rfl) (by simp) ?_
          refine AllReadyH.cons rfl (fun K hK => ?_) AllReadyH.nil
          go_simp
          refine (R4.out _ hS).mono ?_
          rintro e wy ⟨rfl, rfl⟩
          have hT := hS
          go_wp2_with (fail)
          refine hK.out _ _ hT (fun hU => ?_)
          clear hK K hU hS
          have hS := hT
          clear hT
          try simp only [Act.put, List.getElem_toArray, List.getElem_cons_succ, List.getElem_cons_zero, List.setIfInBounds_toArray, List.set_cons_zero, List.set_cons_succ]
          refine wpAnyH_take (i := 13) (v := ?_) rfl (by kernel_rfl) (by kernel_rfl) (by kernel_rfl) (fun _ _ _ h => h) (Or.inl ⟨by rfl, ?_⟩) hS ?_
          rotate_left
          · intro w' hSw; go_simp; try rfl
          try simp only [Act.put, List.getElem_toArray, List.getElem_cons_succ, List.getElem_cons_zero, List.setIfInBounds_toArray, List.set_cons_zero, List.set_cons_succ]
          refine wpAnyH_ready (rs := [15]) (by kernel_rfl) (by simp) ?_
          refine AllReadyH.cons rfl (fun K hK => ?_) AllReadyH.nil
          go_simp
          refine (R8.out _ hS).mono ?_
          rintro e wy ⟨rfl, rfl⟩
          have hT := hS
          go_wp2_with (fail)
          refine hK.out _ _ hT (fun hU => ?_)
          clear hK K hU hS
          have hS := hT
          clear hT
          try simp only [Act.put, List.getElem_toArray, List.getElem_cons_succ, List.getElem_cons_zero, List.setIfInBounds_toArray, List.set_cons_zero, List.set_cons_succ]
          refine wpAnyH_take (i := 16) (v := ?_) rfl (by kernel_rfl) (by kernel_rfl) (by kernel_rfl) (fun _ _ _ h => h) (Or.inl ⟨by rfl, ?_⟩) hS ?_
          rotate_left
          · intro w' hSw; go_simp; try rfl
          try simp only [Act.put, List.getElem_toArray, List.getElem_cons_succ, List.getElem_cons_zero, List.setIfInBounds_toArray, List.set_cons_zero, List.set_cons_succ]
          refine wpAnyH_ready (rs := [18]) (by kernel_rfl) (by simp) ?_
          refine AllReadyH.cons rfl (fun K hK => ?_) AllReadyH.nil
          go_simp
          refine (R12.out _ hS).mono ?_
          rintro e wy ⟨rfl, rfl⟩
          have hT := hS
          go_wp2_with (fail)
          refine hK.out _ _ hT (fun hU => ?_)
          clear hK K hU hS
          have hS := hT
          clear hT
          try simp only [Act.put, List.getElem_toArray, List.getElem_cons_succ, List.getElem_cons_zero, List.setIfInBounds_toArray, List.set_cons_zero, List.set_cons_succ]
          refine wpAnyH_take (i := 19) (v := .agg #[.int .i64 (IntKind.i64.wrap b0), .int .i64 (IntKind.i64.wrap z4), .int .i64 (IntKind.i64.wrap z8), .slice none 0 0, .int .u64 z12, .int .i64 (IntKind.i64.wrap z2), .bool (!(b1 == 0))]) rfl (by kernel_rfl) (by kernel_rfl) (by kernel_rfl) (fun _ _ _ h => h) (Or.inl ⟨by rfl, fun w' hSw => ?_⟩) hS ?_
          · exact exec_rbuild_cmd (by rfl) (IntKind.i64.wrap b0) (IntKind.i64.wrap z4) (IntKind.i64.wrap z8) z12 (IntKind.i64.wrap z2) (!(b1 == 0)) (by rfl) (by rfl) (by rfl) (by rfl) (by rfl) (by rfl)
          try simp only [Act.put, List.getElem_toArray, List.getElem_cons_succ, List.getElem_cons_zero, List.setIfInBounds_toArray, List.set_cons_zero, List.set_cons_succ]
          refine wpAnyH_ready (rs := [21]) (by kernel_rfl) (by simp) ?_
          refine AllReadyH.cons rfl (fun K hK => ?_) AllReadyH.nil
          have hT : ∀ o : Obj, Below w.heap.size w (w2.alloc o).drew := fun o => bdrew (HBB2.out.alloc (by have := HBB2.out.size; omega) _)
          go_simp
          refine hK.out _ _ (hT _) (fun hU => ?_)
          clear hK K hU hS hT
          refine wpAnyH_done (by kernel_rfl) ?_ _
          go_wp2_with (fail)
          go_meet
          refine ⟨rfl, ?_⟩
          rw [HW0.out]
      · refine AllReadyH.cons rfl (fun K hK => ?_) AllReadyH.nil
        have hT : ∀ o : Obj, Below w.heap.size w (w2.alloc o).drew := fun o => bdrew (HBB2.out.alloc (by have := HBB2.out.size; omega) _)
        go_simp
        refine hK.out _ _ (hT _) (fun hU => ?_)
        clear hK K hU hS
        have hS := hT (.cells #[.int .i64 0, .int .i64 0, .int .i64 0, .slice none 0 0, .int .u64 0, .int .i64 0, .bool false] 25)
        clear hT
        try simp only [Act.put, List.getElem_toArray, List.getElem_cons_succ, List.getElem_cons_zero, List.setIfInBounds_toArray, List.set_cons_zero, List.set_cons_succ]
        refine wpAnyH_ready (rs := [9]) (by kernel_rfl) (by simp) ?_
        refine AllReadyH.cons rfl (fun K hK => ?_) AllReadyH.nil
        go_simp
        refine (R2.out _ hS).mono ?_
        rintro e wy ⟨rfl, rfl⟩
        have hT := hS
        go_wp2_with (fail)
        refine hK.out _ _ hT (fun hU => ?_)
        clear hK K hU hS
        have hS := hT
        clear hT
        try simp only [Act.put, List.getElem_toArray, List.getElem_cons_succ, List.getElem_cons_zero, List.setIfInBounds_toArray, List.set_cons_zero, List.set_cons_succ]
        refine wpAnyH_take (i := 10) (v := ?_) rfl (by kernel_rfl) (by kernel_rfl) (by kernel_rfl) (fun _ _ _ h => h) (Or.inl ⟨by rfl, ?_⟩) hS ?_
        rotate_left
        · intro w' hSw; go_simp; try rfl
        try simp only [Act.put, List.getElem_toArray, List.getElem_cons_succ, List.getElem_cons_zero, List.setIfInBounds_toArray, List.set_cons_zero, List.set_cons_succ]
        refine wpAnyH_ready (rs := [12]) (by kernel_rfl) (by simp) ?_
        refine AllReadyH.cons rfl (fun K hK => ?_) AllReadyH.nil
        go_simp
        refine (R4.out _ hS).mono ?_
        rintro e wy ⟨rfl, rfl⟩
        have hT := hS
        go_wp2_with (fail)
        refine hK.out _ _ hT (fun hU => ?_)
        clear hK K hU hS
        have hS := hT
        clear hT
        try simp only [Act.put, List.getElem_toArray, List.getElem_cons_succ, List.getElem_cons_zero, List.setIfInBounds_toArray, List.set_cons_zero, List.set_cons_succ]
        refine wpAnyH_take (i := 13) (v := ?_) rfl (by kernel_rfl) (by kernel_rfl) (by kernel_rfl) (fun _ _ _ h => h) (Or.inl ⟨by rfl, ?_⟩) hS ?_
        rotate_left
        · intro w' hSw; go_simp; try rfl
        try simp only [Act.put, List.getElem_toArray, List.getElem_cons_succ, List.getElem_cons_zero, List.setIfInBounds_toArray, List.set_cons_zero, List.set_cons_succ]
        refine wpAnyH_ready (rs := [15]) (by kernel_rfl) (by simp) ?_
        refine AllReadyH.cons rfl (fun K hK => ?_) AllReadyH.nil
        go_simp
        refine (R8.out _ hS).mono ?_
        rintro e wy ⟨rfl, rfl⟩
        have hT := hS
        go_wp2_with (fail)
        refine hK.out _ _ hT (fun hU => ?_)
        clear hK K hU hS
        have hS := hT
        clear hT
        try simp only [Act.put, List.getElem_toArray, List.getElem_cons_succ, List.getElem_cons_zero, List.setIfInBounds_toArray, List.set_cons_zero, List.set_cons_succ]
        refine wpAnyH_take (i := 16) (v := ?_) rfl (by kernel_rfl) (by kernel_rfl) (by kernel_rfl) (fun _ _ _ h => h) (Or.inl ⟨by rfl, ?_⟩) hS ?_
        rotate_left
        · intro w' hSw; go_simp; try rfl
        try simp only [Act.put, List.getElem_toArray, List.getElem_cons_succ, List.getElem_cons_zero, List.setIfInBounds_toArray, List.set_cons_zero, List.set_cons_succ]
        refine wpAnyH_ready (rs := [18]) (by kernel_rfl) (by simp) ?_
        refine AllReadyH.cons rfl (fun K hK => ?_) AllReadyH.nil
        go_simp
        refine (R12.out _ hS).mono ?_
        rintro e wy ⟨rfl, rfl⟩
        have hT := hS
        go_wp2_with (fail)
        refine hK.out _ _ hT (fun hU => ?_)
        clear hK K hU hS
        have hS := hT
        clear hT
        try simp only [Act.put, List.getElem_toArray, List.getElem_cons_succ, List.getElem_cons_zero, List.setIfInBounds_toArray, List.set_cons_zero, List.set_cons_succ]
        refine wpAnyH_take (i := 19) (v := .agg #[.int .i64 (IntKind.i64.wrap b0), .int .i64 (IntKind.i64.wrap z4), .int .i64 (IntKind.i64.wrap z8), .slice none 0 0, .int .u64 z12, .int .i64 (IntKind.i64.wrap z2), .bool (!(b1 == 0))]) rfl (by kernel_rfl) (by kernel_rfl) (by kernel_rfl) (fun _ _ _ h => h) (Or.inl ⟨by rfl, fun w' hSw => ?_⟩) hS ?_
        · exact exec_rbuild_cmd (by rfl) (IntKind.i64.wrap b0) (IntKind.i64.wrap z4) (IntKind.i64.wrap z8) z12 (IntKind.i64.wrap z2) (!(b1 == 0)) (by rfl) (by rfl) (by rfl) (by rfl) (by rfl) (by rfl)
        try simp only [Act.put, List.getElem_toArray, List.getElem_cons_succ, List.getElem_cons_zero, List.setIfInBounds_toArray, List.set_cons_zero, List.set_cons_succ]
        refine wpAnyH_ready (rs := [21]) (by kernel_rfl) (by simp) ?_
        refine AllReadyH.cons rfl (fun K hK => ?_) AllReadyH.nil
        have hT : ∀ o : Obj, Below w.heap.size w (w2.alloc o).drew := fun o => bdrew (HBB2.out.alloc (by have := HBB2.out.size; omega) _)
        go_simp
        refine hK.out _ _ (hT _) (fun hU => ?_)
        clear hK K hU hS hT
        refine wpAnyH_done (by kernel_rfl) ?_ _
        go_wp2_with (fail)
        go_meet
        refine ⟨rfl, ?_⟩
        rw [HW0.out]
  case rest =>
    as_aux_lemma =>
      obtain ⟨rfl, rfl⟩ := hcut
      generalize hy4 : IntKind.i64.wrap z4 = y4 at *
      generalize hy8 : IntKind.i64.wrap z8 = y8 at *
      generalize hyz : IntKind.i64.wrap z2 = y2 at *
      generalize hkp : (!(b1 == 0)) = kp at *
      have HY4 := Lib.hid hy4
      have HY8 := Lib.hid hy8
      have HYZ := Lib.hid hyz
      have HKP := Lib.hid hkp
      clear hy4 hy8 hyz hkp
      have hd0 : Dr w (w2.alloc (.cells #[.int .i64 b0, .int .i64 y4, .int .i64 y8, .slice none 0 0, .int .u64 z12, .int .i64 y2, .bool kp] 25)).drew w2.heap.size ⟨b0, y4, y8, 0, [], z12, y2, kp⟩ 0 (.slice none 0 0) [] :=
        ⟨(Below.heap_alloc _ _ _ (lt_of_heap HY2.out)).trans HY2.out, heap_alloc_new w2 _, World.ownsRow_nil _ _ _ _, (HBB2.out.alloc HBB2.out.size _).drew, lt_of_heap HY2.out⟩
      generalize (w2.alloc (.cells #[.int .i64 b0, .int .i64 y4, .int .i64 y8, .slice none 0 0, .int .u64 z12, .int .i64 y2, .bool kp] 25)).drew = w5 at *
      generalize w2.heap.size = B5 at *
      have HD := Lib.hid hd0
      clear hd0 HY2 HBB2
      have hn63 : n ≤ 9223372036854775807 := by omega
      go_wp2_with (fail)
      go_loopg [5] (9) (fun q v5 wr => ∃ (k i : Nat) (dv : Value), i = 20 + 16 * k ∧ i ≤ n ∧ v5 = .int .i64 (i : Int) ∧ q = 9 - k ∧ Dr w wr B5 ⟨b0, y4, y8, 0, [], z12, y2, kp⟩ k dv ((bs.drop 20).take (16 * k)))
      case atStart => exact ⟨0, 20, _, rfl, hn, rfl, rfl, by simpa using HD.out⟩
      case round =>
        obtain ⟨k, i, dv, hi, hin, rfl, hq, hd⟩ := hrel
        obtain ⟨wo, rfl⟩ : ∃ wo : World, wo = wr := ⟨_, rfl⟩
        have HI := Lib.hid hi
        have HQ := Lib.hid hq
        clear HD
        have HD := Lib.hid hd
        clear hd hq
        by_cases hgo : i < n
        · have hk8 : k ≤ 7 := by omega
          have him : i + 16 ≤ n := by have := HR16.out; omega
          have hsec : ((bs.drop (20 + 16 * k)).take 16).length = 16 := by simp; omega
          have HSEC : Hid (∀ (j : Nat) (x : Int) (W : World), j < 16 → ((bs.drop (20 + 16 * k)).take 16)[j]? = some x → Below w.heap.size w W → W.cell? ⟨b, off + (i + j), none⟩ = some (.int .u8 x)) := Lib.hid (fun j x W hj hx hW => by
            rw [List.getElem?_take_of_lt hj, List.getElem?_drop] at hx
            rw [hi]
            exact H.out.byte hW hx)
          have HS := Lib.hid hsec
          obtain ⟨v', w1, hr, q1, q2, q4⟩ : ∃ v' w1, True ∧ True ∧ True ∧ True := ⟨w, w, trivial, trivial, trivial, trivial⟩
          clear v' w1 hr q1 q2 q4
          have HPUSH : Hid (∀ W, Dr w W B5 ⟨b0, y4, y8, 0, [], z12, y2, kp⟩ k dv ((bs.drop 20).take (16 * k)) → ∃ A7 c7 w1, (Builtin.append_ #[22, 22] 22 #[dv, .slice (some ⟨W.heap.size, 0, none⟩) 1 1]).run Try.prog (W.alloc (.cells (u8s ((bs.drop (20 + 16 * k)).take 16)).toArray 41)) = .ok (.slice A7 (k + 1) c7) w1 ∧ w1.cell? ⟨B5, 3, none⟩ = some dv ∧ w1.frozen? ⟨B5, 3, none⟩ = false ∧ Dr w (w1.setCell ⟨B5, 3, none⟩ (.slice A7 (k + 1) c7)) B5 ⟨b0, y4, y8, 0, [], z12, y2, kp⟩ (k + 1) (.slice A7 (k + 1) c7) ((bs.drop 20).take (16 * (k + 1)))) := Lib.hid (fun W hW => by
            obtain ⟨v', w1, hr, q1, q2, q4⟩ := hW.push _ HS.out (by omega)
            obtain ⟨A7, c7, rfl, _, _⟩ := own_form q4.row
            refine ⟨A7, c7, w1, hr, q1, q2, ?_⟩
            rw [Nat.mul_succ, List.take_add, List.drop_drop]
            exact q4)
          clear hi hsec
          generalize hsq : (bs.drop (20 + 16 * k)).take 16 = sec at *
          clear hsq
          have hbr : B5 < wo.heap.size := lt_of_heap HD.out.cmd
          go_wp2_with (fail)
          have hin0 : (wo.alloc (.cells #[.int .u8 0, .int .u8 0, .int .u8 0, .int .u8 0, .int .u8 0, .int .u8 0, .int .u8 0, .int .u8 0, .int .u8 0, .int .u8 0, .int .u8 0, .int .u8 0, .int .u8 0, .int .u8 0, .int .u8 0, .int .u8 0] 41)).heap[wo.heap.size]? = some (.cells (u8s (part sec 0)).toArray 41 (0, 0)) ∧ Below wo.heap.size wo (wo.alloc (.cells #[.int .u8 0, .int .u8 0, .int .u8 0, .int .u8 0, .int .u8 0, .int .u8 0, .int .u8 0, .int .u8 0, .int .u8 0, .int .u8 0, .int .u8 0, .int .u8 0, .int .u8 0, .int .u8 0, .int .u8 0, .int .u8 0] 41)) := ⟨heap_alloc_new wo _, balloc wo _⟩
          have HIN := Lib.hid hin0
          clear hin0
          generalize wo.alloc _ = w6 at *
          go_loopg [7] (16) (fun q v7 wz => ∃ j : Nat, j ≤ 16 ∧ v7 = .int .i64 (j : Int) ∧ q = 16 - j ∧ wz.heap[wo.heap.size]? = some (.cells (u8s (part sec j)).toArray 41 (0, 0)) ∧ Below wo.heap.size wo wz)
          case atStart => exact ⟨0, by omega, rfl, rfl, HIN.out⟩
          case round =>
            obtain ⟨j, hj, rfl, hq, hz, hbz⟩ := hrel
            have HQ2 := Lib.hid hq
            have HZ := Lib.hid hz
            have HBZ := Lib.hid hbz
            clear hq hz hbz HIN
            by_cases hlt : j < 16
            · obtain ⟨x, hx⟩ : ∃ x, sec[j]? = some x := ⟨_, List.getElem?_eq_getElem (by rw [HS.out]; exact hlt)⟩
              have hcx := HSEC.out j x _ hlt hx (HD.out.below.trans (HBZ.out.mono HD.out.below.size))
              obtain ⟨z0, hz0⟩ := part_at sec HS.out j hlt
              have hcz := cell_of_heap HZ.out j
              rw [hz0] at hcz
              have hfz := frozen_of_heap HZ.out j
              have hst := heap_set HZ.out j (.int .u8 x)
              rw [part_set sec HS.out j hlt x hx] at hst
              have HST := Lib.hid hst
              clear hst hx hz0
              have hij : i + j < n := by omega
              have hij2 : (i : Int) + (j : Int) < (n : Int) := by omega
              have hj16 : (j : Int) < 16 := by omega
              go_wp2_with (fail)
              go_roundg (16 - (j + 1))
              case measure => have := HQ2.out; omega
              case rel => exact ⟨j + 1, by omega, by go_num, rfl, HST.out, Only.below HBZ.out (Only.set (p := ⟨wo.heap.size, j, none⟩) _) HBZ.out.size (by simp)⟩
            · obtain rfl : j = 16 := by omega
              have hpt : part sec 16 = sec := by unfold part; rw [List.take_of_length_le (by have := HS.out; omega)]; simp
              have hz16 : (u8s sec).length = 16 := by unfold u8s; simpa using HS.out
              have hb6 := HZ.out
              rw [hpt] at hb6
              have HB6 := Lib.hid hb6
              have HI41 : Hid ((Try.prog.info? 41).map (·.size) = some (u8s sec).toArray.size) := Lib.hid (by rw [List.size_toArray, hz16]; kernel_rfl)
              have hdz := HD.out.kept HBZ.out
              obtain ⟨A7, c7, w1, hr, q1, q2, q4⟩ := HPUSH.out wr hdz
              obtain ⟨A3, c3, rfl, _, _⟩ := own_form hdz.row
              rw [← fill16 _ hz16] at hr
              have cB3 : wr.cell? ⟨B5, 3, none⟩ = some (.slice A3 k c3) := by rw [cell_of_heap hdz.cmd]; rfl
              have hb5 : B5 < wr.heap.size := lt_of_heap hdz.cmd
              have HR := Lib.hid hr
              have HQ4 := Lib.hid q4
              clear hr q4 hdz hb6 hpt HPUSH HSEC
              go_wp2_with (first
                | (refine wpList_load_row rfl 41 _ rfl wo.heap.size rfl 41 _ (0, 0) _ HB6.out Try.underlying41 rfl HI41.out ?_)
                | (at_builtin; refine wpList_append_ran rfl (.tmp 66) (.tmp 68) 22 rfl _ _ rfl rfl _ _ HR.out ?_))
              go_roundg (9 - (k + 1))
              case measure => have := HQ.out; omega
              case rel => exact ⟨k + 1, i + 16, _, by have := HI.out; omega, him, by go_num, rfl, HQ4.out⟩
        · obtain rfl : i = n := by omega
          have hcq : (⟨b0, y4, y8, k, (bs.drop 20).take (16 * k), z12, y2, kp⟩ : Cmd) = prs2 bs := by
            have hkk : (bs.length - 20) / 16 = k := by omega
            have q0 : bs.getD 0 0 = b0 := by rw [List.getD_eq_getElem?_getD, HE0.out]; rfl
            have q1 : bs.getD 1 0 = b1 := by rw [List.getD_eq_getElem?_getD, HE1.out]; rfl
            unfold prs2
            rw [hkk, q0, q1, HQz2.out, HQz4.out, HQz8.out, HQz12.out, HY4.out, HY8.out, HYZ.out, HKP.out, List.take_of_length_le (by simp; omega)]
          have HCQ := Lib.hid hcq
          obtain ⟨A3, c3, rfl, hk3, hc3⟩ := own_form HD.out.row
          have HSQ : Hid (Secs wo (.slice A3 k c3) ⟨b0, y4, y8, k, (bs.drop 20).take (16 * k), z12, y2, kp⟩) := Lib.hid (Rd.of_own HD.out.row)
          have HBR : Hid (∀ x ∈ (bs.drop 20).take (16 * k), 0 ≤ x ∧ x ≤ 255) := Lib.hid (fun x hx => HBY.out x (List.mem_of_mem_drop (List.mem_of_mem_take hx)))
          have HLAW : Hid ((prs2 bs).plain.ok ∧ (prs2 bs).plain.bytes = bs → (prs bs).plain = (prs2 bs).plain ∧ (prs bs).plain.ok ∧ (prs bs).plain.bytes = bs) := Lib.hid (fun h => prs_prs2 bs (by omega) (by rw [hlen]; exact HR16.out) h)
          have HLAW2 : Hid ((prs bs).plain.ok ∧ (prs bs).plain.bytes = bs → (prs2 bs).plain.ok ∧ (prs2 bs).plain.bytes = bs) := Lib.hid (fun h => (prs2_prs bs (by omega) h).2.2)
          have hk9 : k * 16 ≤ 140737488355328 := by omega
          clear hcq hi
          generalize hL : (bs.drop 20).take (16 * k) = L at *
          clear hL
          by_cases hok : (Cmd.mk b0 y4 y8 k L z12 y2 kp).plain.ok
          · have HC8 := Lib.hid (renc_ok _ _ wo HSQ.out hk9 hok)
            unfold Cmd.val at HC8
            go_wp2_with (refine wpList_load_row rfl 25 _ rfl B5 rfl 25 _ (0, 0) _ HD.out.cmd Try.underlying25 rfl (by kernel_rfl) ?_)
            with_reducible refine (HC8.out).mono ?_
            rintro e wy ⟨vy, rfl, hoy, hby⟩
            have HDy := Lib.hid (HD.out.kept hby)
            have HRB := Lib.hid (bytes_range _ hok (plain_range _ HBR.out))
            have HOY := Lib.hid hoy
            have HSY := Lib.hid (HSQ.out.below hby)
            clear hby hoy HC8 HD HSQ
            have HEQ := Lib.hid (same_bytes vy (.slice (some ⟨b, off, none⟩) i cap) _ i _ bs wy (Rd.of_own HOY.out) (H.out.below HDy.out.below))
            by_cases heq : (Cmd.mk b0 y4 y8 k L z12 y2 kp).plain.bytes = bs
            · rw [decide_eq_true heq] at HEQ
              have HP := Lib.hid (fun (W : World) (hW : Below wy.heap.size wy W) => rplain_any _ _ W (HSY.out.below hW) hk9)
              have HFIN : Hid ((prs2 bs).plain.ok ∧ (prs2 bs).plain.bytes = bs) := Lib.hid (by rw [← HCQ.out]; exact ⟨hok, heq⟩)
              unfold Cmd.val at HP
              clear heq hok
              go_upto_region 16 with ((with_reducible refine (HEQ.out).mono ?_); rintro e wq ⟨rfl, hbq⟩)
              have HDq := Lib.hid (HDy.out.kept hbq)
              have HBQ := Lib.hid hbq
              clear hbq HDy
              have HDy := HDq
              clear HDq
              go_wp2_with (refine wpList_load_row rfl 25 _ rfl B5 rfl 25 _ (0, 0) _ HDy.out.cmd Try.underlying25 rfl (by kernel_rfl) ?_)
              with_reducible refine (HP.out _ HBQ.out).mono ?_
              rintro e wz ⟨vz, rfl, hoz, hbz⟩
              have hrz := (HDy.out.kept hbz).res
              obtain ⟨A9, c9, rfl, _, _⟩ := own_form hoz
              have HOZ := Lib.hid (own_lower hoz HDy.out.below.size)
              have HBZ := Lib.hid (HDy.out.below.trans (hbz.mono HDy.out.below.size))
              have HRZ := Lib.hid hrz
              clear hoz hbz HP hrz HEQ
              go_wp2_with (refine wpList_store_row rfl 25 _ _ rfl w.heap.size _ rfl rfl 25 _ HRZ.out (by kernel_rfl) rfl (row_one _ _ _ _ _ _ _ _ _) ?_)
              refine bodyPost_ret (results_ct rfl _ _ w.heap.size 25 _ (0, 0) _ rfl (heap_setRow HRZ.out _) Try.underlying25 rfl (by kernel_rfl)) rfl ?_
              exact DecPost.yes (by rw [(HLAW.out HFIN.out).1, HCQ.out]) (HLAW.out HFIN.out).2 (own_kept HOZ.out (Only.setRow _) (fun k hk hm => by simp at hm; subst hm; exact own_blk HOZ.out HRZ.out (by decide) hk)) (Only.below HBZ.out (Only.setRow _) HBZ.out.size (by simp))
            · rw [decide_eq_false heq] at HEQ
              have HFIN : Hid (¬ ((prs bs).plain.ok ∧ (prs bs).plain.bytes = bs)) := Lib.hid (fun h => by have := HLAW2.out h; rw [← HCQ.out] at this; exact heq this.2)
              clear heq hok
              go_upto_region 15 with ((with_reducible refine (HEQ.out).mono ?_); rintro e wq ⟨rfl, hbq⟩)
              have HDq := Lib.hid (HDy.out.kept hbq)
              clear hbq HDy
              have HDy := HDq
              clear HDq
              go_wp2_with (refine wpList_store_row rfl 25 _ _ rfl w.heap.size _ rfl rfl 25 _ HDy.out.res (by kernel_rfl) rfl (row_one _ _ _ _ _ _ _ _ _) ?_)
              refine bodyPost_ret (results_ct rfl _ _ w.heap.size 25 _ (0, 0) _ rfl (heap_setRow HDy.out.res _) Try.underlying25 rfl (by kernel_rfl)) rfl ?_
              exact DecPost.no HFIN.out (Only.below HDy.out.below (Only.setRow _) HDy.out.below.size (by simp))
          · have HC8 := Lib.hid (renc_bad _ _ wo HSQ.out hk9 hok)
            have HFIN : Hid (¬ ((prs bs).plain.ok ∧ (prs bs).plain.bytes = bs)) := Lib.hid (fun h => by have := HLAW2.out h; rw [← HCQ.out] at this; exact hok this.1)
            unfold Cmd.val at HC8
            go_wp2_with (refine wpList_load_row rfl 25 _ rfl B5 rfl 25 _ (0, 0) _ HD.out.cmd Try.underlying25 rfl (by kernel_rfl) ?_)
            with_reducible refine (HC8.out).mono ?_
            rintro e wy ⟨rfl, hby⟩
            have HDy := Lib.hid (HD.out.kept hby)
            clear hby HC8 HD HSQ
            go_wp2_with (first
              | (refine wpList_store_row rfl 25 _ _ rfl w.heap.size _ rfl rfl 25 _ HDy.out.res (by kernel_rfl) rfl (row_one _ _ _ _ _ _ _ _ _) ?_))
            refine bodyPost_ret (results_ct rfl _ _ w.heap.size 25 _ (0, 0) _ rfl (heap_setRow HDy.out.res _) Try.underlying25 rfl (by kernel_rfl)) rfl ?_
            exact DecPost.no HFIN.out (Only.below HDy.out.below (Only.setRow _) HDy.out.below.size (by simp))
end Go.Proofs.Ytlkibkemmmppcaa.Wd
