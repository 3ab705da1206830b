/- Decode, walked. -/
import Derived.Test.YtlkibkemmmppcaaEql
import Derived.Test.YtlkibkemmmppcaaOwn
import Derived.Test.YtlkibkemmmppcaaRea
import Derived.Test.YtlkibkemmmppcaaDe0
import Derived.Test.YtlkibkemmmppcaaLaw
import Derived.Test.YtlkibkemmmppcaaEn2
import Derived.Outline
namespace Go.Proofs.Ytlkibkemmmppcaa.Wd
open Go.RowKit
set_option linter.unusedVariables false
set_option linter.unusedSimpArgs false
def by_ (bs : List Int) (i : Nat) : Int := bs.getD i 0
/-- What Decode makes of bytes ahead of the sectors. -/
def headOf (bs : List Int) : Cmd := ⟨by_ bs 0, rdz ((bs.drop 4).take 4), rdz ((bs.drop 8).take 2), 0, [], (rdz ((bs.drop 12).take 8)) % 18446744073709551616, rdz ((bs.drop 2).take 2), by_ bs 1 == 1⟩
theorem exec_build {P : Program} {o : Oper} {a : Act} {w : World} (t : TypeId) (l : List (Nat × Operand)) (ho : o.op = .build t l.toArray) (vals : List (Nat × Value)) (hv : l.map (fun p => (p.1, a.eval p.2)) = vals) (cells : Array Value) (hc : P.built t vals = some cells) :
    (execOp a.eval o).run P w = .ok (.value (.agg cells)) w := by
  have hb : P.built t (l.toArray.map fun (i, x) => (i, a.eval x)).toList = some cells := by
    rw [← hc, ← hv]; simp
  unfold execOp
  simp only [ho, Sem.run_bind, run_build w t _ cells hb, Result.andThen_ok, Sem.run_pure]
theorem built_cmd (b0 z4 z8 zk z2 : Int) (kp : Bool) : Try.prog.built 25 [(0, .int .i64 b0), (6, .bool kp), (5, .int .i64 z2), (1, .int .i64 z4), (2, .int .i64 z8), (4, .int .u64 zk)] = some #[.int .i64 b0, .int .i64 z4, .int .i64 z8, .slice none 0 0, .int .u64 zk, .int .i64 z2, .bool kp] := by kernel_rfl
theorem exec_build_cmd {o : Oper} {a : Act} {w : World} (ho : o.op = .build 25 #[(0, .tmp 17), (6, .tmp 21), (5, .tmp 23), (1, .tmp 25), (2, .tmp 27), (4, .tmp 30)]) (b0 z4 z8 zk z2 : Int) (kp : Bool)
    (h0 : a.eval (.tmp 17) = .int .i64 b0) (h6 : a.eval (.tmp 21) = .bool kp) (h5 : a.eval (.tmp 23) = .int .i64 z2) (h1 : a.eval (.tmp 25) = .int .i64 z4) (h2 : a.eval (.tmp 27) = .int .i64 z8) (h4 : a.eval (.tmp 30) = .int .u64 zk) :
    (execOp a.eval o).run Try.prog w = .ok (.value (.agg #[.int .i64 b0, .int .i64 z4, .int .i64 z8, .slice none 0 0, .int .u64 zk, .int .i64 z2, .bool kp])) w :=
  exec_build 25 [(0, .tmp 17), (6, .tmp 21), (5, .tmp 23), (1, .tmp 25), (2, .tmp 27), (4, .tmp 30)] ho [(0, .int .i64 b0), (6, .bool kp), (5, .int .i64 z2), (1, .int .i64 z4), (2, .int .i64 z8), (4, .int .u64 zk)] (by simp only [List.map_cons, List.map_nil, h0, h6, h5, h1, h2, h4]) _ (built_cmd _ _ _ _ _ _)
theorem wp_append_ran {P : Program} {w : World} {o : Oper} {a : Act} {K : Act → World → Prop} {Q : Exit → Act → World → Prop} (s x : Operand) (t : TypeId)
    (ho : o.op = .call { callee := .builtin .append, args := #[s, x], argTypes := #[t, t] }) (v u : Value) (hs : a.eval s = v) (hx : a.eval x = u) (v' : Value) (w' : World)
    (hrun : (Builtin.append_ #[t, t] o.type #[v, u]).run P w = .ok v' w') (h : K (a.put o.dst v') w') : o.wp P a w K Q := by
  unfold Oper.wp
  simp [execOp, ho, resolve, invoke, builtin, hs, hx, hrun, Result.andThen]
  exact h
theorem fill16 (L : List Value) (h : L.length = 16) : List.foldl (fun (cs : Array Value) (x : Value × Nat) => cs.setIfInBounds x.snd x.fst) #[.int .u8 0, .int .u8 0, .int .u8 0, .int .u8 0, .int .u8 0, .int .u8 0, .int .u8 0, .int .u8 0, .int .u8 0, .int .u8 0, .int .u8 0, .int .u8 0, .int .u8 0, .int .u8 0, .int .u8 0, .int .u8 0] L.zipIdx = L.toArray := by
  match L, h with
  | [_, _, _, _, _, _, _, _, _, _, _, _, _, _, _, _], _ => simp [List.zipIdx]
/-- What Decode answers. -/
def DecPost (w : World) (bs : List Int) (e : Ending) (w' : World) : Prop :=
  (((prs bs).plain.ok ∧ (prs bs).plain.bytes = bs) ∧ ∃ dv, e = .returned (.tuple #[(prs bs).plain.val dv, .int .i64 0]) ∧ Own w' w.heap.size dv (prs bs).plain ∧ Below w.heap.size w w') ∨
  (¬ ((prs bs).plain.ok ∧ (prs bs).plain.bytes = bs) ∧ e = .returned (.tuple #[czero.val (.slice none 0 0), .int .i64 1]) ∧ Below w.heap.size w w')
theorem DecPost.no {w w' : World} {bs : List Int} (h : ¬ ((prs bs).plain.ok ∧ (prs bs).plain.bytes = bs)) (hb : Below w.heap.size w w') : DecPost w bs (.returned (.tuple #[czero.val (.slice none 0 0), .int .i64 1])) w' := .inr ⟨h, rfl, hb⟩
theorem DecPost.yes {w w' : World} {bs : List Int} {dv : Value} {c : Cmd} (hc : c = (prs bs).plain) (h : (prs bs).plain.ok ∧ (prs bs).plain.bytes = bs) (ho : Own w' w.heap.size dv c) (hb : Below w.heap.size w w') : DecPost w bs (.returned (.tuple #[c.val dv, .int .i64 0])) w' := by
  subst hc
  exact .inl ⟨h, dv, rfl, ho, hb⟩
theorem plain_range (c : Cmd) (h : ∀ x ∈ c.bs, 0 ≤ x ∧ x ≤ 255) : ∀ x ∈ c.plain.bs, 0 ≤ x ∧ x ≤ 255 := by
  intro x hx
  unfold Cmd.plain at hx
  simp only at hx
  split at hx
  · exact h x hx
  · cases hx
theorem bytes_range (p : Cmd) (hok : p.ok) (h : ∀ x ∈ p.bs, 0 ≤ x ∧ x ≤ 255) : ∀ x ∈ p.bytes, 0 ≤ x ∧ x ≤ 255 := by
  obtain ⟨_, _, _, _, _, _, _, _, hn⟩ := hok
  intro x hx
  unfold Cmd.bytes Cmd.head Cmd.mid be4 be8 at hx
  simp only [List.mem_append, List.mem_cons, List.not_mem_nil, or_false] at hx
  rcases hx with (((hx | hx) | hx) | hx) | hx
  · rcases hx with rfl | rfl | rfl | rfl
    · omega
    · split <;> omega
    · omega
    · omega
  · rcases hx with rfl | rfl | rfl | rfl <;> omega
  · rcases hx with rfl | rfl | rfl | rfl <;> omega
  · rcases hx with rfl | rfl | rfl | rfl | rfl | rfl | rfl | rfl <;> omega
  · exact h x hx
/-- Decode's loop: k sectors have come in. -/
structure Dl (w0 wr : World) (B5 : Nat) (bx : Value) (hd : Cmd) (k : Nat) (dv : Value) (L : List Int) : Prop where
  box : wr.heap[w0.heap.size]? = some (.cells #[bx] 26 (0, 0))
  res : wr.heap[w0.heap.size + 1]? = some (.cells #[.int .i64 0, .int .i64 0, .int .i64 0, .slice none 0 0, .int .u64 0, .int .i64 0, .bool false] 25 (0, 0))
  cmd : wr.heap[B5]? = some (.cells #[.int .i64 hd.kind, .int .i64 hd.lba, .int .i64 hd.count, dv, .int .u64 hd.key, .int .i64 hd.res, .bool hd.keep] 25 (0, 0))
  row : wr.ownsRow w0.heap.size 41 16 dv k (u8s L)
  below : Below w0.heap.size w0 wr
  far : w0.heap.size + 1 < B5
theorem Dl.kept {w0 wr w' : World} {B5 : Nat} {bx : Value} {hd : Cmd} {k : Nat} {dv : Value} {L : List Int} (h : Dl w0 wr B5 bx hd k dv L) (hb : Below wr.heap.size wr w') : Dl w0 w' B5 bx hd k dv L :=
  ⟨(hb.block _ (lt_of_heap h.box)).trans h.box, (hb.block _ (lt_of_heap h.res)).trans h.res, (hb.block _ (lt_of_heap h.cmd)).trans h.cmd, own_below h.row hb, h.below.trans (hb.mono h.below.size), h.far⟩
theorem heap_setCell_ne {w : World} {g k i : Nat} {u : Value} (h : k ≠ g) : (w.setCell ⟨g, i, none⟩ u).heap[k]? = w.heap[k]? := Below.heap_setCell w ⟨g, i, none⟩ u k h
theorem Dl.push {w0 wr : World} {B5 : Nat} {bx : Value} {hd : Cmd} {k : Nat} {dv : Value} {L : List Int} (h : Dl w0 wr B5 bx hd k dv L) (sec : List Int) (hs : sec.length = 16) (hk : k ≤ 8) :
    ∃ v' w1, (Builtin.append_ #[22, 22] 22 #[dv, .slice (some ⟨wr.heap.size, 0, none⟩) 1 1]).run Try.prog (wr.alloc (.cells (u8s sec).toArray 41)).drew = .ok v' w1 ∧ w1.cell? ⟨B5, 3, none⟩ = some dv ∧ w1.frozen? ⟨B5, 3, none⟩ = false ∧ Below w0.heap.size w0 w1 ∧ Dl w0 (w1.setCell ⟨B5, 3, none⟩ v') B5 bx hd (k + 1) v' (L ++ sec) := by
  have hB : Below wr.heap.size wr (wr.alloc (.cells (u8s sec).toArray 41)).drew := (balloc wr _).drew
  have h1 := h.kept hB
  have hz : (u8s sec).length = 16 := by unfold u8s; simp [hs]
  have hu : Rd (wr.alloc (.cells (u8s sec).toArray 41)).drew (.slice (some ⟨wr.heap.size, 0, none⟩) 1 1) 1 16 (u8s sec) := by
    refine ⟨by omega, _, 1, rfl, by omega, by unfold maxLen; omega, (fun h => by cases h), fun _ => ⟨wr.heap.size, 0, rfl, by simp, fun j u hu => ?_⟩⟩
    rw [World.cell?_drew, cell_of_heap (heap_alloc_new wr _), Nat.zero_add]
    simpa using hu
  obtain ⟨v', w1, hr, ho, hg, hb⟩ := cat_secs _ _ _ _ _ _ _ _ h1.row hu (u8s_one _) (by omega) h1.below.size
  have hO := Only.grown hg
  have hne : ∀ g cs, (wr.alloc (.cells (u8s sec).toArray 41)).drew.heap[g]? = some (.cells cs 25 (0, 0)) → g ∉ dv.ownBlock.toList := fun g cs hg hm => own_blk h1.row hg (by decide) (by simpa using hm)
  have hne2 : ∀ g cs, (wr.alloc (.cells (u8s sec).toArray 41)).drew.heap[g]? = some (.cells cs 26 (0, 0)) → g ∉ dv.ownBlock.toList := fun g cs hg hm => own_blk h1.row hg (by decide) (by simpa using hm)
  have c1 := (hO.block _ (lt_of_heap h1.cmd) (hne _ _ h1.cmd)).trans h1.cmd
  have r1 := (hO.block _ (lt_of_heap h1.res) (hne _ _ h1.res)).trans h1.res
  have b1 := (hO.block _ (lt_of_heap h1.box) (hne2 _ _ h1.box)).trans h1.box
  have hb1 : Below w0.heap.size w0 w1 := Only.below h1.below hO h1.below.size (fun x hx => by have := (h1.row.lt x (by simpa using hx)).1; omega)
  have hf := h.far
  have hne3 : v'.ownBlock ≠ some B5 := own_blk ho c1 (by decide)
  refine ⟨v', w1, hr, by rw [cell_of_heap c1]; rfl, frozen_of_heap c1 3, hb1, ?_, ?_, ?_, ?_, ?_, hf⟩
  · rw [heap_setCell_ne (by omega)]; exact b1
  · rw [heap_setCell_ne (by omega)]; exact r1
  · exact heap_set c1 3 v'
  · unfold u8s at *; rw [List.map_append]; exact own_kept ho (Only.set (p := ⟨B5, 3, none⟩) _) (fun k hk hm => by simp at hm; subst hm; exact hne3 hk)
  · exact Only.below hb1 (Only.set (p := ⟨B5, 3, none⟩) _) hb1.size (by simp; omega)
set_option maxRecDepth 100000 in
set_option maxHeartbeats 8000000 in
theorem dec_long (v : Value) (n : Nat) (bs : List Int) (w : World) (h : Rd w v n 1 (u8s bs)) (hn : 20 ≤ n) (hby : ∀ x ∈ bs, 0 ≤ x ∧ x ≤ 255) :
    Calls Try.prog 13 #[v] w (DecPost w bs) := by
  obtain ⟨A, cap, rfl, hc1, hc2, hA⟩ := h.bform
  obtain ⟨b, off, rfl, hbl⟩ := hA (by omega)
  have hlen := h.blen
  have hcm : cap ≤ 9223372036854775807 := by unfold maxLen at hc2; omega
  have HBY := Lib.hid hby
  have H := Lib.hid h
  have RD : ∀ (fr k : Nat) (W : World), fr + k ≤ 20 → 0 < k → W.cell? ⟨w.heap.size, 0, none⟩ = some (.slice (some ⟨b, off, none⟩) n cap) → Below w.heap.size w W → Calls Try.prog 21 #[.int .i64 (fr : Int), .int .i64 ((fr + k : Nat) : Int), .pointer (some ⟨w.heap.size, 0, none⟩)] W fun e w' => e = .returned (.int .i64 (rdz ((bs.drop fr).take k))) ∧ w' = W :=
    fun fr k W h1 h2 h3 h4 => read_any w.heap.size b off n cap bs W fr k h3 (H.out.below h4) (by omega) h2 HBY.out
  have R2 := Lib.hid (show ∀ W : World, W.cell? ⟨w.heap.size, 0, none⟩ = some (.slice (some ⟨b, off, none⟩) n cap) → Below w.heap.size w W → Calls Try.prog 21 #[.int .i64 2, .int .i64 4, .pointer (some ⟨w.heap.size, 0, none⟩)] W fun e w' => e = .returned (.int .i64 (rdz ((bs.drop 2).take 2))) ∧ w' = W from fun W h3 h4 => RD 2 2 W (by omega) (by omega) h3 h4)
  have R4 := Lib.hid (show ∀ W : World, W.cell? ⟨w.heap.size, 0, none⟩ = some (.slice (some ⟨b, off, none⟩) n cap) → Below w.heap.size w W → Calls Try.prog 21 #[.int .i64 4, .int .i64 8, .pointer (some ⟨w.heap.size, 0, none⟩)] W fun e w' => e = .returned (.int .i64 (rdz ((bs.drop 4).take 4))) ∧ w' = W from fun W h3 h4 => RD 4 4 W (by omega) (by omega) h3 h4)
  have R8 := Lib.hid (show ∀ W : World, W.cell? ⟨w.heap.size, 0, none⟩ = some (.slice (some ⟨b, off, none⟩) n cap) → Below w.heap.size w W → Calls Try.prog 21 #[.int .i64 8, .int .i64 10, .pointer (some ⟨w.heap.size, 0, none⟩)] W fun e w' => e = .returned (.int .i64 (rdz ((bs.drop 8).take 2))) ∧ w' = W from fun W h3 h4 => RD 8 2 W (by omega) (by omega) h3 h4)
  have R12 := Lib.hid (show ∀ W : World, W.cell? ⟨w.heap.size, 0, none⟩ = some (.slice (some ⟨b, off, none⟩) n cap) → Below w.heap.size w W → Calls Try.prog 21 #[.int .i64 12, .int .i64 20, .pointer (some ⟨w.heap.size, 0, none⟩)] W fun e w' => e = .returned (.int .i64 (rdz ((bs.drop 12).take 8))) ∧ w' = W from fun W h3 h4 => RD 12 8 W (by omega) (by omega) h3 h4)
  obtain ⟨b0, hb0⟩ : ∃ x, bs[0]? = some x := ⟨_, List.getElem?_eq_getElem (by omega)⟩
  obtain ⟨b1, hb1⟩ : ∃ x, bs[1]? = some x := ⟨_, List.getElem?_eq_getElem (by omega)⟩
  have HB0 := Lib.hid (fun W (hW : Below w.heap.size w W) => H.out.byte hW hb0)
  have HB1 := Lib.hid (fun W (hW : Below w.heap.size w W) => H.out.byte hW hb1)
  have hw0 : IntKind.i64.wrap b0 = b0 := by
    have hb := HBY.out b0 (List.mem_of_getElem? hb0)
    rw [wrap_eq]; unfold wrap64; omega
  have HW0 := Lib.hid hw0
  have HW12 := Lib.hid (IntKind.wrap_u64 (rdz ((bs.drop 12).take 8)))
  have HE0 := Lib.hid hb0
  have HE1 := Lib.hid hb1
  clear h hA hby RD hb0 hb1 hw0
  generalize hqz2 : rdz ((bs.drop 2).take 2) = z2 at *
  have HQz2 := Lib.hid hqz2
  clear hqz2
  generalize hqz4 : rdz ((bs.drop 4).take 4) = z4 at *
  have HQz4 := Lib.hid hqz4
  clear hqz4
  generalize hqz8 : rdz ((bs.drop 8).take 2) = z8 at *
  have HQz8 := Lib.hid hqz8
  clear hqz8
  generalize hqz12 : rdz ((bs.drop 12).take 8) = z12 at *
  have HQz12 := Lib.hid hqz12
  clear hqz12
  have hz2 := two_first w (.cells #[.slice (some ⟨b, off, none⟩) n cap] 26) (.cells #[.int .i64 0, .int .i64 0, .int .i64 0, .slice none 0 0, .int .u64 0, .int .i64 0, .bool false] 25)
  have hy2 := two_last w (.cells #[.slice (some ⟨b, off, none⟩) n cap] 26) (.cells #[.int .i64 0, .int .i64 0, .int .i64 0, .slice none 0 0, .int .u64 0, .int .i64 0, .bool false] 25)
  have hB2 := two_below w (.cells #[.slice (some ⟨b, off, none⟩) n cap] 26) (.cells #[.int .i64 0, .int .i64 0, .int .i64 0, .slice none 0 0, .int .u64 0, .int .i64 0, .bool false] 25)
  go_enter Try.func13, Try.ntmps13
  go_upto_region 4 with (fail)
  generalize hW2 : (w.alloc _).alloc _ = w2 at *
  clear hW2
  have HZ2 := Lib.hid hz2
  have HY2 := Lib.hid hy2
  have HBB2 := Lib.hid hB2
  clear hz2 hy2 hB2
  have e20 : 0 < n := by omega
  have e21 : 1 < n := by omega
  have e22 : (1 : Int) < (n : Int) := by omega
  have e23 : (0 : Int) < (n : Int) := by omega
  have e24 : ¬ n ≤ 1 := by omega
  go_cut [5] (fun v5 wx => v5 = .pointer (some ⟨w2.heap.size, 0, none⟩) ∧ wx = (w2.alloc (.cells #[.int .i64 b0, .int .i64 z4, .int .i64 z8, .slice none 0 0, .int .u64 (z12 % 18446744073709551616), .int .i64 z2, .bool (b1 == 1)] 25)).drew)
  case first =>
    as_aux_lemma =>
      have hS0 : w2.drew.cell? ⟨w.heap.size, 0, none⟩ = some (.slice (some ⟨b, off, none⟩) n cap) ∧ w.heap.size < w2.drew.heap.size ∧ Below w.heap.size w w2.drew := ⟨(by rw [World.cell?_drew, cell_of_heap HZ2.out]; rfl), lt_of_heap HZ2.out, bdrew HBB2.out⟩
      refine wp_region_held_drew (S := fun W => W.cell? ⟨w.heap.size, 0, none⟩ = some (.slice (some ⟨b, off, none⟩) n cap) ∧ w.heap.size < W.heap.size ∧ Below w.heap.size w W) (by kernel_rfl) hS0 (fun hS => ?_)
      have h02 : w2.cell? ⟨w.heap.size, 0, none⟩ = some (.slice (some ⟨b, off, none⟩) n cap) := by rw [cell_of_heap HZ2.out]; rfl
      have hlt2 : w.heap.size < w2.heap.size := lt_of_heap HZ2.out
      refine wpAnyH_take (i := 0) (v := ?_) rfl (by kernel_rfl) (by kernel_rfl) (by kernel_rfl) (fun _ _ _ h => h) (Or.inl ⟨by rfl, ?_⟩) hS ?_
      rotate_left
      · intro w' hSw; obtain ⟨s1, s2, s3⟩ := hSw; go_simp; try rfl
      try simp only [Act.put, List.getElem_toArray, List.getElem_cons_succ, List.getElem_cons_zero, List.setIfInBounds_toArray, List.set_cons_zero, List.set_cons_succ]
      refine wpAnyH_take (i := 1) (v := ?_) rfl (by kernel_rfl) (by kernel_rfl) (by kernel_rfl) (fun _ _ _ h => h) (Or.inl ⟨by rfl, ?_⟩) hS ?_
      rotate_left
      · intro w' hSw; go_simp; try rfl
      try simp only [Act.put, List.getElem_toArray, List.getElem_cons_succ, List.getElem_cons_zero, List.setIfInBounds_toArray, List.set_cons_zero, List.set_cons_succ]
      refine wpAnyH_take (i := 2) (v := ?_) rfl (by kernel_rfl) (by kernel_rfl) (by kernel_rfl) (fun _ _ _ h => h) (Or.inl ⟨by rfl, ?_⟩) hS ?_
      rotate_left
      · intro w' hSw; obtain ⟨s1, s2, s3⟩ := hSw; have q0 := HB0.out w' s3; rw [Nat.add_zero] at q0; go_simp; try rfl
      try simp only [Act.put, List.getElem_toArray, List.getElem_cons_succ, List.getElem_cons_zero, List.setIfInBounds_toArray, List.set_cons_zero, List.set_cons_succ]
      refine wpAnyH_take (i := 3) (v := ?_) rfl (by kernel_rfl) (by kernel_rfl) (by kernel_rfl) (fun _ _ _ h => h) (Or.inl ⟨by rfl, ?_⟩) hS ?_
      rotate_left
      · intro w' hSw; go_simp; try rfl
      try simp only [Act.put, List.getElem_toArray, List.getElem_cons_succ, List.getElem_cons_zero, List.setIfInBounds_toArray, List.set_cons_zero, List.set_cons_succ]
      refine wpAnyH_take (i := 4) (v := ?_) rfl (by kernel_rfl) (by kernel_rfl) (by kernel_rfl) (fun _ _ _ h => h) (Or.inl ⟨by rfl, ?_⟩) hS ?_
      rotate_left
      · intro w' hSw; obtain ⟨s1, s2, s3⟩ := hSw; go_simp; try rfl
      try simp only [Act.put, List.getElem_toArray, List.getElem_cons_succ, List.getElem_cons_zero, List.setIfInBounds_toArray, List.set_cons_zero, List.set_cons_succ]
      refine wpAnyH_take (i := 5) (v := ?_) rfl (by kernel_rfl) (by kernel_rfl) (by kernel_rfl) (fun _ _ _ h => h) (Or.inl ⟨by rfl, ?_⟩) hS ?_
      rotate_left
      · intro w' hSw; go_simp; try rfl
      try simp only [Act.put, List.getElem_toArray, List.getElem_cons_succ, List.getElem_cons_zero, List.setIfInBounds_toArray, List.set_cons_zero, List.set_cons_succ]
      refine wpAnyH_take (i := 6) (v := ?_) rfl (by kernel_rfl) (by kernel_rfl) (by kernel_rfl) (fun _ _ _ h => h) (Or.inl ⟨by rfl, ?_⟩) hS ?_
      rotate_left
      · intro w' hSw; obtain ⟨s1, s2, s3⟩ := hSw; have q1 := HB1.out w' s3; go_simp; try rfl
      try simp only [Act.put, List.getElem_toArray, List.getElem_cons_succ, List.getElem_cons_zero, List.setIfInBounds_toArray, List.set_cons_zero, List.set_cons_succ]
      refine wpAnyH_take (i := 7) (v := ?_) rfl (by kernel_rfl) (by kernel_rfl) (by kernel_rfl) (fun _ _ _ h => h) (Or.inl ⟨by rfl, ?_⟩) hS ?_
      rotate_left
      · intro w' hSw; go_simp; try rfl
      try simp only [Act.put, List.getElem_toArray, List.getElem_cons_succ, List.getElem_cons_zero, List.setIfInBounds_toArray, List.set_cons_zero, List.set_cons_succ]
      refine wpAnyH_take (i := 8) (v := ?_) rfl (by kernel_rfl) (by kernel_rfl) (by kernel_rfl) (fun _ _ _ h => h) (Or.inl ⟨by rfl, ?_⟩) hS ?_
      rotate_left
      · intro w' hSw; go_simp; try rfl
      try simp only [Act.put, List.getElem_toArray, List.getElem_cons_succ, List.getElem_cons_zero, List.setIfInBounds_toArray, List.set_cons_zero, List.set_cons_succ]
      refine wpAnyH_take (i := 10) (v := ?_) rfl (by kernel_rfl) (by kernel_rfl) (by kernel_rfl) (fun _ _ _ h => h) (Or.inl ⟨by rfl, ?_⟩) hS ?_
      rotate_left
      · intro w' hSw; go_simp; try rfl
      try simp only [Act.put, List.getElem_toArray, List.getElem_cons_succ, List.getElem_cons_zero, List.setIfInBounds_toArray, List.set_cons_zero, List.set_cons_succ]
      refine wpAnyH_take (i := 12) (v := ?_) rfl (by kernel_rfl) (by kernel_rfl) (by kernel_rfl) (fun _ _ _ h => h) (Or.inl ⟨by rfl, ?_⟩) hS ?_
      rotate_left
      · intro w' hSw; go_simp; try rfl
      try simp only [Act.put, List.getElem_toArray, List.getElem_cons_succ, List.getElem_cons_zero, List.setIfInBounds_toArray, List.set_cons_zero, List.set_cons_succ]
      refine wpAnyH_take (i := 14) (v := ?_) rfl (by kernel_rfl) (by kernel_rfl) (by kernel_rfl) (fun _ _ _ h => h) (Or.inl ⟨by rfl, ?_⟩) hS ?_
      rotate_left
      · intro w' hSw; go_simp; try rfl
      try simp only [Act.put, List.getElem_toArray, List.getElem_cons_succ, List.getElem_cons_zero, List.setIfInBounds_toArray, List.set_cons_zero, List.set_cons_succ]
      refine wpAnyH_ready (rs := [9, 18]) (by kernel_rfl) (by simp) ?_
      refine AllReadyH.cons rfl (fun K hK => ?_) ?_
      · go_simp
        refine (R2.out _ hS.1 hS.2.2).mono ?_
        rintro e wy ⟨rfl, rfl⟩
        have hT := hS
        go_wp2_with (fail)
        refine hK.out _ _ hT (fun hU => ?_)
        clear hK K hU hS
        have hS := hT
        clear hT
        try simp only [Act.put, List.getElem_toArray, List.getElem_cons_succ, List.getElem_cons_zero, List.setIfInBounds_toArray, List.set_cons_zero, List.set_cons_succ]
        refine wpAnyH_ready (rs := [11, 18]) (by kernel_rfl) (by simp) ?_
        refine AllReadyH.cons rfl (fun K hK => ?_) ?_
        · go_simp
          refine (R4.out _ hS.1 hS.2.2).mono ?_
          rintro e wy ⟨rfl, rfl⟩
          have hT := hS
          go_wp2_with (fail)
          refine hK.out _ _ hT (fun hU => ?_)
          clear hK K hU hS
          have hS := hT
          clear hT
          try simp only [Act.put, List.getElem_toArray, List.getElem_cons_succ, List.getElem_cons_zero, List.setIfInBounds_toArray, List.set_cons_zero, List.set_cons_succ]
          refine wpAnyH_ready (rs := [13, 18]) (by kernel_rfl) (by simp) ?_
          refine AllReadyH.cons rfl (fun K hK => ?_) ?_
          · go_simp
            refine (R8.out _ hS.1 hS.2.2).mono ?_
            rintro e wy ⟨rfl, rfl⟩
            have hT := hS
            go_wp2_with (fail)
            refine hK.out _ _ hT (fun hU => ?_)
            clear hK K hU hS
            have hS := hT
            clear hT
            try simp only [Act.put, List.getElem_toArray, List.getElem_cons_succ, List.getElem_cons_zero, List.setIfInBounds_toArray, List.set_cons_zero, List.set_cons_succ]
            refine wpAnyH_ready (rs := [15, 18]) (by kernel_rfl) (by simp) ?_
            refine AllReadyH.cons rfl (fun K hK => ?_) ?_
            · go_simp
              refine (R12.out _ hS.1 hS.2.2).mono ?_
              rintro e wy ⟨rfl, rfl⟩
              have hT := hS
              go_wp2_with (fail)
              refine hK.out _ _ hT (fun hU => ?_)
              clear hK K hU hS
              have hS := hT
              clear hT
              try simp only [Act.put, List.getElem_toArray, List.getElem_cons_succ, List.getElem_cons_zero, List.setIfInBounds_toArray, List.set_cons_zero, List.set_cons_succ]
              refine wpAnyH_take (i := 16) (v := ?_) rfl (by kernel_rfl) (by kernel_rfl) (by kernel_rfl) (fun _ _ _ h => h) (Or.inl ⟨by rfl, ?_⟩) hS ?_
              rotate_left
              · intro w' hSw; go_simp; try rfl
              try simp only [Act.put, List.getElem_toArray, List.getElem_cons_succ, List.getElem_cons_zero, List.setIfInBounds_toArray, List.set_cons_zero, List.set_cons_succ]
              refine wpAnyH_take (i := 17) (v := .agg #[.int .i64 (IntKind.i64.wrap b0), .int .i64 z4, .int .i64 z8, .slice none 0 0, .int .u64 (IntKind.u64.wrap z12), .int .i64 z2, .bool (b1 == 1)]) rfl (by kernel_rfl) (by kernel_rfl) (by kernel_rfl) (fun _ _ _ h => h) (Or.inl ⟨by rfl, fun w' hSw => ?_⟩) hS ?_
              · refine exec_build_cmd (by rfl) (IntKind.i64.wrap b0) z4 z8 (IntKind.u64.wrap z12) z2 (b1 == 1) (by rfl) (by rfl) (by rfl) (by rfl) (by rfl) (by rfl)
              try simp only [Act.put, List.getElem_toArray, List.getElem_cons_succ, List.getElem_cons_zero, List.setIfInBounds_toArray, List.set_cons_zero, List.set_cons_succ]
              refine wpAnyH_ready (rs := [18]) (by kernel_rfl) (by simp) ?_
              refine AllReadyH.cons rfl (fun K hK => ?_) AllReadyH.nil
              have hT : ∀ o : Obj, (w2.alloc o).drew.cell? ⟨w.heap.size, 0, none⟩ = some (.slice (some ⟨b, off, none⟩) n cap) ∧ w.heap.size < (w2.alloc o).drew.heap.size ∧ Below w.heap.size w (w2.alloc o).drew := fun o => ⟨(World.cell?_alloc_lt _ _ _ (by show w.heap.size < _; exact hlt2)).trans h02, by simp; omega, bdrew (HBB2.out.alloc (by have := HBB2.out.size; omega) _)⟩
              go_simp
              refine hK.out _ _ (hT _) (fun hU => ?_)
              clear hK K hU hS
              have hS := hT (.cells #[.int .i64 0, .int .i64 0, .int .i64 0, .slice none 0 0, .int .u64 0, .int .i64 0, .bool false] 25)
              clear hT
              try simp only [Act.put, List.getElem_toArray, List.getElem_cons_succ, List.getElem_cons_zero, List.setIfInBounds_toArray, List.set_cons_zero, List.set_cons_succ]
              refine wpAnyH_ready (rs := [19]) (by kernel_rfl) (by simp) ?_
              refine AllReadyH.cons rfl (fun K hK => ?_) AllReadyH.nil
              have hT : ∀ o : Obj, (w2.alloc o).drew.cell? ⟨w.heap.size, 0, none⟩ = some (.slice (some ⟨b, off, none⟩) n cap) ∧ w.heap.size < (w2.alloc o).drew.heap.size ∧ Below w.heap.size w (w2.alloc o).drew := fun o => ⟨(World.cell?_alloc_lt _ _ _ (by show w.heap.size < _; exact hlt2)).trans h02, by simp; omega, bdrew (HBB2.out.alloc (by have := HBB2.out.size; omega) _)⟩
              go_simp
              refine hK.out _ _ (hT _) (fun hU => ?_)
              clear hK K hU hS hT
              refine wpAnyH_done (by kernel_rfl) ?_ _
              go_wp2_with (fail)
              go_meet
              refine ⟨rfl, ?_⟩
              rw [HW0.out, HW12.out]
            · refine AllReadyH.cons rfl (fun K hK => ?_) AllReadyH.nil
              have hT : ∀ o : Obj, (w2.alloc o).drew.cell? ⟨w.heap.size, 0, none⟩ = some (.slice (some ⟨b, off, none⟩) n cap) ∧ w.heap.size < (w2.alloc o).drew.heap.size ∧ Below w.heap.size w (w2.alloc o).drew := fun o => ⟨(World.cell?_alloc_lt _ _ _ (by show w.heap.size < _; exact hlt2)).trans h02, by simp; omega, bdrew (HBB2.out.alloc (by have := HBB2.out.size; omega) _)⟩
              go_simp
              refine hK.out _ _ (hT _) (fun hU => ?_)
              clear hK K hU hS
              have hS := hT (.cells #[.int .i64 0, .int .i64 0, .int .i64 0, .slice none 0 0, .int .u64 0, .int .i64 0, .bool false] 25)
              clear hT
              try simp only [Act.put, List.getElem_toArray, List.getElem_cons_succ, List.getElem_cons_zero, List.setIfInBounds_toArray, List.set_cons_zero, List.set_cons_succ]
              refine wpAnyH_ready (rs := [15]) (by kernel_rfl) (by simp) ?_
              refine AllReadyH.cons rfl (fun K hK => ?_) AllReadyH.nil
              go_simp
              refine (R12.out _ hS.1 hS.2.2).mono ?_
              rintro e wy ⟨rfl, rfl⟩
              have hT := hS
              go_wp2_with (fail)
              refine hK.out _ _ hT (fun hU => ?_)
              clear hK K hU hS
              have hS := hT
              clear hT
              try simp only [Act.put, List.getElem_toArray, List.getElem_cons_succ, List.getElem_cons_zero, List.setIfInBounds_toArray, List.set_cons_zero, List.set_cons_succ]
              refine wpAnyH_take (i := 16) (v := ?_) rfl (by kernel_rfl) (by kernel_rfl) (by kernel_rfl) (fun _ _ _ h => h) (Or.inl ⟨by rfl, ?_⟩) hS ?_
              rotate_left
              · intro w' hSw; go_simp; try rfl
              try simp only [Act.put, List.getElem_toArray, List.getElem_cons_succ, List.getElem_cons_zero, List.setIfInBounds_toArray, List.set_cons_zero, List.set_cons_succ]
              refine wpAnyH_take (i := 17) (v := .agg #[.int .i64 (IntKind.i64.wrap b0), .int .i64 z4, .int .i64 z8, .slice none 0 0, .int .u64 (IntKind.u64.wrap z12), .int .i64 z2, .bool (b1 == 1)]) rfl (by kernel_rfl) (by kernel_rfl) (by kernel_rfl) (fun _ _ _ h => h) (Or.inl ⟨by rfl, fun w' hSw => ?_⟩) hS ?_
              · refine exec_build_cmd (by rfl) (IntKind.i64.wrap b0) z4 z8 (IntKind.u64.wrap z12) z2 (b1 == 1) (by rfl) (by rfl) (by rfl) (by rfl) (by rfl) (by rfl)
              try simp only [Act.put, List.getElem_toArray, List.getElem_cons_succ, List.getElem_cons_zero, List.setIfInBounds_toArray, List.set_cons_zero, List.set_cons_succ]
              refine wpAnyH_ready (rs := [19]) (by kernel_rfl) (by simp) ?_
              refine AllReadyH.cons rfl (fun K hK => ?_) AllReadyH.nil
              have hT : ∀ o : Obj, (w2.alloc o).drew.cell? ⟨w.heap.size, 0, none⟩ = some (.slice (some ⟨b, off, none⟩) n cap) ∧ w.heap.size < (w2.alloc o).drew.heap.size ∧ Below w.heap.size w (w2.alloc o).drew := fun o => ⟨(World.cell?_alloc_lt _ _ _ (by show w.heap.size < _; exact hlt2)).trans h02, by simp; omega, bdrew (HBB2.out.alloc (by have := HBB2.out.size; omega) _)⟩
              go_simp
              refine hK.out _ _ (hT _) (fun hU => ?_)
              clear hK K hU hS hT
              refine wpAnyH_done (by kernel_rfl) ?_ _
              go_wp2_with (fail)
              go_meet
              refine ⟨rfl, ?_⟩
              rw [HW0.out, HW12.out]
          · refine AllReadyH.cons rfl (fun K hK => ?_) AllReadyH.nil
            have hT : ∀ o : Obj, (w2.alloc o).drew.cell? ⟨w.heap.size, 0, none⟩ = some (.slice (some ⟨b, off, none⟩) n cap) ∧ w.heap.size < (w2.alloc o).drew.heap.size ∧ Below w.heap.size w (w2.alloc o).drew := fun o => ⟨(World.cell?_alloc_lt _ _ _ (by show w.heap.size < _; exact hlt2)).trans h02, by simp; omega, bdrew (HBB2.out.alloc (by have := HBB2.out.size; omega) _)⟩
            go_simp
            refine hK.out _ _ (hT _) (fun hU => ?_)
            clear hK K hU hS
            have hS := hT (.cells #[.int .i64 0, .int .i64 0, .int .i64 0, .slice none 0 0, .int .u64 0, .int .i64 0, .bool false] 25)
            clear hT
            try simp only [Act.put, List.getElem_toArray, List.getElem_cons_succ, List.getElem_cons_zero, List.setIfInBounds_toArray, List.set_cons_zero, List.set_cons_succ]
            refine wpAnyH_ready (rs := [13]) (by kernel_rfl) (by simp) ?_
            refine AllReadyH.cons rfl (fun K hK => ?_) AllReadyH.nil
            go_simp
            refine (R8.out _ hS.1 hS.2.2).mono ?_
            rintro e wy ⟨rfl, rfl⟩
            have hT := hS
            go_wp2_with (fail)
            refine hK.out _ _ hT (fun hU => ?_)
            clear hK K hU hS
            have hS := hT
            clear hT
            try simp only [Act.put, List.getElem_toArray, List.getElem_cons_succ, List.getElem_cons_zero, List.setIfInBounds_toArray, List.set_cons_zero, List.set_cons_succ]
            refine wpAnyH_ready (rs := [15]) (by kernel_rfl) (by simp) ?_
            refine AllReadyH.cons rfl (fun K hK => ?_) AllReadyH.nil
            go_simp
            refine (R12.out _ hS.1 hS.2.2).mono ?_
            rintro e wy ⟨rfl, rfl⟩
            have hT := hS
            go_wp2_with (fail)
            refine hK.out _ _ hT (fun hU => ?_)
            clear hK K hU hS
            have hS := hT
            clear hT
            try simp only [Act.put, List.getElem_toArray, List.getElem_cons_succ, List.getElem_cons_zero, List.setIfInBounds_toArray, List.set_cons_zero, List.set_cons_succ]
            refine wpAnyH_take (i := 16) (v := ?_) rfl (by kernel_rfl) (by kernel_rfl) (by kernel_rfl) (fun _ _ _ h => h) (Or.inl ⟨by rfl, ?_⟩) hS ?_
            rotate_left
            · intro w' hSw; go_simp; try rfl
            try simp only [Act.put, List.getElem_toArray, List.getElem_cons_succ, List.getElem_cons_zero, List.setIfInBounds_toArray, List.set_cons_zero, List.set_cons_succ]
            refine wpAnyH_take (i := 17) (v := .agg #[.int .i64 (IntKind.i64.wrap b0), .int .i64 z4, .int .i64 z8, .slice none 0 0, .int .u64 (IntKind.u64.wrap z12), .int .i64 z2, .bool (b1 == 1)]) rfl (by kernel_rfl) (by kernel_rfl) (by kernel_rfl) (fun _ _ _ h => h) (Or.inl ⟨by rfl, fun w' hSw => ?_⟩) hS ?_
            · refine exec_build_cmd (by rfl) (IntKind.i64.wrap b0) z4 z8 (IntKind.u64.wrap z12) z2 (b1 == 1) (by rfl) (by rfl) (by rfl) (by rfl) (by rfl) (by rfl)
            try simp only [Act.put, List.getElem_toArray, List.getElem_cons_succ, List.getElem_cons_zero, List.setIfInBounds_toArray, List.set_cons_zero, List.set_cons_succ]
            refine wpAnyH_ready (rs := [19]) (by kernel_rfl) (by simp) ?_
            refine AllReadyH.cons rfl (fun K hK => ?_) AllReadyH.nil
            have hT : ∀ o : Obj, (w2.alloc o).drew.cell? ⟨w.heap.size, 0, none⟩ = some (.slice (some ⟨b, off, none⟩) n cap) ∧ w.heap.size < (w2.alloc o).drew.heap.size ∧ Below w.heap.size w (w2.alloc o).drew := fun o => ⟨(World.cell?_alloc_lt _ _ _ (by show w.heap.size < _; exact hlt2)).trans h02, by simp; omega, bdrew (HBB2.out.alloc (by have := HBB2.out.size; omega) _)⟩
            go_simp
            refine hK.out _ _ (hT _) (fun hU => ?_)
            clear hK K hU hS hT
            refine wpAnyH_done (by kernel_rfl) ?_ _
            go_wp2_with (fail)
            go_meet
            refine ⟨rfl, ?_⟩
            rw [HW0.out, HW12.out]
        · refine AllReadyH.cons rfl (fun K hK => ?_) AllReadyH.nil
          have hT : ∀ o : Obj, (w2.alloc o).drew.cell? ⟨w.heap.size, 0, none⟩ = some (.slice (some ⟨b, off, none⟩) n cap) ∧ w.heap.size < (w2.alloc o).drew.heap.size ∧ Below w.heap.size w (w2.alloc o).drew := fun o => ⟨(World.cell?_alloc_lt _ _ _ (by show w.heap.size < _; exact hlt2)).trans h02, by simp; omega, bdrew (HBB2.out.alloc (by have := HBB2.out.size; omega) _)⟩
          go_simp
          refine hK.out _ _ (hT _) (fun hU => ?_)
          clear hK K hU hS
          have hS := hT (.cells #[.int .i64 0, .int .i64 0, .int .i64 0, .slice none 0 0, .int .u64 0, .int .i64 0, .bool false] 25)
          clear hT
          try simp only [Act.put, List.getElem_toArray, List.getElem_cons_succ, List.getElem_cons_zero, List.setIfInBounds_toArray, List.set_cons_zero, List.set_cons_succ]
          refine wpAnyH_ready (rs := [11]) (by kernel_rfl) (by simp) ?_
          refine AllReadyH.cons rfl (fun K hK => ?_) AllReadyH.nil
          go_simp
          refine (R4.out _ hS.1 hS.2.2).mono ?_
          rintro e wy ⟨rfl, rfl⟩
          have hT := hS
          go_wp2_with (fail)
          refine hK.out _ _ hT (fun hU => ?_)
          clear hK K hU hS
          have hS := hT
          clear hT
          try simp only [Act.put, List.getElem_toArray, List.getElem_cons_succ, List.getElem_cons_zero, List.setIfInBounds_toArray, List.set_cons_zero, List.set_cons_succ]
          refine wpAnyH_ready (rs := [13]) (by kernel_rfl) (by simp) ?_
          refine AllReadyH.cons rfl (fun K hK => ?_) AllReadyH.nil
          go_simp
          refine (R8.out _ hS.1 hS.2.2).mono ?_
          rintro e wy ⟨rfl, rfl⟩
          have hT := hS
          go_wp2_with (fail)
          refine hK.out _ _ hT (fun hU => ?_)
          clear hK K hU hS
          have hS := hT
          clear hT
          try simp only [Act.put, List.getElem_toArray, List.getElem_cons_succ, List.getElem_cons_zero, List.setIfInBounds_toArray, List.set_cons_zero, List.set_cons_succ]
          refine wpAnyH_ready (rs := [15]) (by kernel_rfl) (by simp) ?_
          refine AllReadyH.cons rfl (fun K hK => ?_) AllReadyH.nil
          go_simp
          refine (R12.out _ hS.1 hS.2.2).mono ?_
          rintro e wy ⟨rfl, rfl⟩
          have hT := hS
          go_wp2_with (fail)
          refine hK.out _ _ hT (fun hU => ?_)
          clear hK K hU hS
          have hS := hT
          clear hT
          try simp only [Act.put, List.getElem_toArray, List.getElem_cons_succ, List.getElem_cons_zero, List.setIfInBounds_toArray, List.set_cons_zero, List.set_cons_succ]
          refine wpAnyH_take (i := 16) (v := ?_) rfl (by kernel_rfl) (by kernel_rfl) (by kernel_rfl) (fun _ _ _ h => h) (Or.inl ⟨by rfl, ?_⟩) hS ?_
          rotate_left
          · intro w' hSw; go_simp; try rfl
          try simp only [Act.put, List.getElem_toArray, List.getElem_cons_succ, List.getElem_cons_zero, List.setIfInBounds_toArray, List.set_cons_zero, List.set_cons_succ]
          refine wpAnyH_take (i := 17) (v := .agg #[.int .i64 (IntKind.i64.wrap b0), .int .i64 z4, .int .i64 z8, .slice none 0 0, .int .u64 (IntKind.u64.wrap z12), .int .i64 z2, .bool (b1 == 1)]) rfl (by kernel_rfl) (by kernel_rfl) (by kernel_rfl) (fun _ _ _ h => h) (Or.inl ⟨by rfl, fun w' hSw => ?_⟩) hS ?_
          · refine exec_build_cmd (by rfl) (IntKind.i64.wrap b0) z4 z8 (IntKind.u64.wrap z12) z2 (b1 == 1) (by rfl) (by rfl) (by rfl) (by rfl) (by rfl) (by rfl)
          try simp only [Act.put, List.getElem_toArray, List.getElem_cons_succ, List.getElem_cons_zero, List.setIfInBounds_toArray, List.set_cons_zero, List.set_cons_succ]
          refine wpAnyH_ready (rs := [19]) (by kernel_rfl) (by simp) ?_
          refine AllReadyH.cons rfl (fun K hK => ?_) AllReadyH.nil
          have hT : ∀ o : Obj, (w2.alloc o).drew.cell? ⟨w.heap.size, 0, none⟩ = some (.slice (some ⟨b, off, none⟩) n cap) ∧ w.heap.size < (w2.alloc o).drew.heap.size ∧ Below w.heap.size w (w2.alloc o).drew := fun o => ⟨(World.cell?_alloc_lt _ _ _ (by show w.heap.size < _; exact hlt2)).trans h02, by simp; omega, bdrew (HBB2.out.alloc (by have := HBB2.out.size; omega) _)⟩
          go_simp
          refine hK.out _ _ (hT _) (fun hU => ?_)
          clear hK K hU hS hT
          refine wpAnyH_done (by kernel_rfl) ?_ _
          go_wp2_with (fail)
          go_meet
          refine ⟨rfl, ?_⟩
          rw [HW0.out, HW12.out]
      · refine AllReadyH.cons rfl (fun K hK => ?_) AllReadyH.nil
        have hT : ∀ o : Obj, (w2.alloc o).drew.cell? ⟨w.heap.size, 0, none⟩ = some (.slice (some ⟨b, off, none⟩) n cap) ∧ w.heap.size < (w2.alloc o).drew.heap.size ∧ Below w.heap.size w (w2.alloc o).drew := fun o => ⟨(World.cell?_alloc_lt _ _ _ (by show w.heap.size < _; exact hlt2)).trans h02, by simp; omega, bdrew (HBB2.out.alloc (by have := HBB2.out.size; omega) _)⟩
        go_simp
        refine hK.out _ _ (hT _) (fun hU => ?_)
        clear hK K hU hS
        have hS := hT (.cells #[.int .i64 0, .int .i64 0, .int .i64 0, .slice none 0 0, .int .u64 0, .int .i64 0, .bool false] 25)
        clear hT
        try simp only [Act.put, List.getElem_toArray, List.getElem_cons_succ, List.getElem_cons_zero, List.setIfInBounds_toArray, List.set_cons_zero, List.set_cons_succ]
        refine wpAnyH_ready (rs := [9]) (by kernel_rfl) (by simp) ?_
        refine AllReadyH.cons rfl (fun K hK => ?_) AllReadyH.nil
        go_simp
        refine (R2.out _ hS.1 hS.2.2).mono ?_
        rintro e wy ⟨rfl, rfl⟩
        have hT := hS
        go_wp2_with (fail)
        refine hK.out _ _ hT (fun hU => ?_)
        clear hK K hU hS
        have hS := hT
        clear hT
        try simp only [Act.put, List.getElem_toArray, List.getElem_cons_succ, List.getElem_cons_zero, List.setIfInBounds_toArray, List.set_cons_zero, List.set_cons_succ]
        refine wpAnyH_ready (rs := [11]) (by kernel_rfl) (by simp) ?_
        refine AllReadyH.cons rfl (fun K hK => ?_) AllReadyH.nil
        go_simp
        refine (R4.out _ hS.1 hS.2.2).mono ?_
        rintro e wy ⟨rfl, rfl⟩
        have hT := hS
        go_wp2_with (fail)
        refine hK.out _ _ hT (fun hU => ?_)
        clear hK K hU hS
        have hS := hT
        clear hT
        try simp only [Act.put, List.getElem_toArray, List.getElem_cons_succ, List.getElem_cons_zero, List.setIfInBounds_toArray, List.set_cons_zero, List.set_cons_succ]
        refine wpAnyH_ready (rs := [13]) (by kernel_rfl) (by simp) ?_
        refine AllReadyH.cons rfl (fun K hK => ?_) AllReadyH.nil
        go_simp
        refine (R8.out _ hS.1 hS.2.2).mono ?_
        rintro e wy ⟨rfl, rfl⟩
        have hT := hS
        go_wp2_with (fail)
        refine hK.out _ _ hT (fun hU => ?_)
        clear hK K hU hS
        have hS := hT
        clear hT
        try simp only [Act.put, List.getElem_toArray, List.getElem_cons_succ, List.getElem_cons_zero, List.setIfInBounds_toArray, List.set_cons_zero, List.set_cons_succ]
        refine wpAnyH_ready (rs := [15]) (by kernel_rfl) (by simp) ?_
        refine AllReadyH.cons rfl (fun K hK => ?_) AllReadyH.nil
        go_simp
        refine (R12.out _ hS.1 hS.2.2).mono ?_
        rintro e wy ⟨rfl, rfl⟩
        have hT := hS
        go_wp2_with (fail)
        refine hK.out _ _ hT (fun hU => ?_)
        clear hK K hU hS
        have hS := hT
        clear hT
        try simp only [Act.put, List.getElem_toArray, List.getElem_cons_succ, List.getElem_cons_zero, List.setIfInBounds_toArray, List.set_cons_zero, List.set_cons_succ]
        refine wpAnyH_take (i := 16) (v := ?_) rfl (by kernel_rfl) (by kernel_rfl) (by kernel_rfl) (fun _ _ _ h => h) (Or.inl ⟨by rfl, ?_⟩) hS ?_
        rotate_left
        · intro w' hSw; go_simp; try rfl
        try simp only [Act.put, List.getElem_toArray, List.getElem_cons_succ, List.getElem_cons_zero, List.setIfInBounds_toArray, List.set_cons_zero, List.set_cons_succ]
        refine wpAnyH_take (i := 17) (v := .agg #[.int .i64 (IntKind.i64.wrap b0), .int .i64 z4, .int .i64 z8, .slice none 0 0, .int .u64 (IntKind.u64.wrap z12), .int .i64 z2, .bool (b1 == 1)]) rfl (by kernel_rfl) (by kernel_rfl) (by kernel_rfl) (fun _ _ _ h => h) (Or.inl ⟨by rfl, fun w' hSw => ?_⟩) hS ?_
        · refine exec_build_cmd (by rfl) (IntKind.i64.wrap b0) z4 z8 (IntKind.u64.wrap z12) z2 (b1 == 1) (by rfl) (by rfl) (by rfl) (by rfl) (by rfl) (by rfl)
        try simp only [Act.put, List.getElem_toArray, List.getElem_cons_succ, List.getElem_cons_zero, List.setIfInBounds_toArray, List.set_cons_zero, List.set_cons_succ]
        refine wpAnyH_ready (rs := [19]) (by kernel_rfl) (by simp) ?_
        refine AllReadyH.cons rfl (fun K hK => ?_) AllReadyH.nil
        have hT : ∀ o : Obj, (w2.alloc o).drew.cell? ⟨w.heap.size, 0, none⟩ = some (.slice (some ⟨b, off, none⟩) n cap) ∧ w.heap.size < (w2.alloc o).drew.heap.size ∧ Below w.heap.size w (w2.alloc o).drew := fun o => ⟨(World.cell?_alloc_lt _ _ _ (by show w.heap.size < _; exact hlt2)).trans h02, by simp; omega, bdrew (HBB2.out.alloc (by have := HBB2.out.size; omega) _)⟩
        go_simp
        refine hK.out _ _ (hT _) (fun hU => ?_)
        clear hK K hU hS hT
        refine wpAnyH_done (by kernel_rfl) ?_ _
        go_wp2_with (fail)
        go_meet
        refine ⟨rfl, ?_⟩
        rw [HW0.out, HW12.out]
  case rest =>
    as_aux_lemma =>
      obtain ⟨rfl, rfl⟩ := hcut
      have hx1 := two_first w (.cells #[.slice (some ⟨b, off, none⟩) n cap] 26) (.cells #[.int .i64 0, .int .i64 0, .int .i64 0, .slice none 0 0, .int .u64 0, .int .i64 0, .bool false] 25)
      clear hx1
      have hlt2 : w.heap.size + 1 < w2.heap.size := lt_of_heap HY2.out
      have hd0 : Dl w (w2.alloc (.cells #[.int .i64 b0, .int .i64 z4, .int .i64 z8, .slice none 0 0, .int .u64 (z12 % 18446744073709551616), .int .i64 z2, .bool (b1 == 1)] 25)).drew w2.heap.size (.slice (some ⟨b, off, none⟩) n cap) ⟨b0, z4, z8, 0, [], z12 % 18446744073709551616, z2, b1 == 1⟩ 0 (.slice none 0 0) [] :=
        ⟨(Below.heap_alloc _ _ _ (by omega)).trans HZ2.out, (Below.heap_alloc _ _ _ hlt2).trans HY2.out, heap_alloc_new w2 _, World.ownsRow_nil _ _ _ _, (HBB2.out.alloc HBB2.out.size _).drew, hlt2⟩
      generalize (w2.alloc (.cells #[.int .i64 b0, .int .i64 z4, .int .i64 z8, .slice none 0 0, .int .u64 (z12 % 18446744073709551616), .int .i64 z2, .bool (b1 == 1)] 25)).drew = w5 at *
      generalize w2.heap.size = B5 at *
      have HD := Lib.hid hd0
      clear hd0 HZ2 HY2 HBB2
      have hb20 : w.heap.size < w5.heap.size := lt_of_heap HD.out.box
      have hc0 : w5.cell? ⟨w.heap.size, 0, none⟩ = some (.slice (some ⟨b, off, none⟩) n cap) := by rw [cell_of_heap HD.out.box]; rfl
      go_upto_region 5 with (fail)
      go_cut [6] (fun v6 wx => ∃ A, v6 = .slice A (n - 20) (cap - 20) ∧ (0 < n - 20 → A = some ⟨b, off + 20, none⟩) ∧ wx = w5)
      case first =>
        by_cases hc20 : cap = 20
        · obtain rfl := hc20
          obtain rfl : n = 20 := by omega
          go_wp2_with (fail)
          go_meet
          exact ⟨_, rfl, by omega, rfl⟩
        · have g1 : 20 < cap := by omega
          have g2 : ¬ cap ≤ 20 := by omega
          go_wp2_with (fail)
          go_meet
          exact ⟨_, rfl, fun _ => rfl, rfl⟩
      case rest =>
        obtain ⟨A6, rfl, hA6, rfl⟩ := hcut
        have HA6 := Lib.hid hA6
        clear hA6 hc0
        go_wp2_with (fail)
        go_loopg [6] (9) (fun q v6 wr => ∃ (k m c : Nat) (A : Option Addr) (dv : Value), k ≤ 9 ∧ m + (20 + 16 * k) = n ∧ c + (20 + 16 * k) = cap ∧ v6 = .slice A m c ∧ (0 < m → A = some ⟨b, off + (20 + 16 * k), none⟩) ∧ q = 9 - k ∧ Dl w wr B5 (.slice (some ⟨b, off, none⟩) n cap) ⟨b0, z4, z8, 0, [], z12 % 18446744073709551616, z2, b1 == 1⟩ k dv ((bs.drop 20).take (16 * k)))
        case atStart => exact ⟨0, n - 20, cap - 20, A6, _, by omega, by omega, by omega, rfl, HA6.out, rfl, by simpa using HD.out⟩
        case round =>
          obtain ⟨k, m, c, A, dv, hk, hm, hc, rfl, hA, hq, hd⟩ := hrel
          have HM := Lib.hid hm
          have HC := Lib.hid hc
          have HQ := Lib.hid hq
          have HA := Lib.hid hA
          clear HD
          have HD := Lib.hid hd
          obtain ⟨A3, c3, rfl, hk3, hc3⟩ := own_form hd.row
          have hmc : m ≤ c := by omega
          have hm63 : m ≤ 9223372036854775807 := by omega
          have cB3 : wr.cell? ⟨B5, 3, none⟩ = some (.slice A3 k c3) := by rw [cell_of_heap hd.cmd]; rfl
          clear hm hc hq hA hd
          by_cases hgo : 16 ≤ m ∧ k ≤ 8
          · obtain ⟨hm16, hk8⟩ := hgo
            obtain rfl := HA.out (by omega)
            have hc16 : (16 : Int) ≤ (c : Int) := by omega
            have hm16i : (16 : Int) ≤ (m : Int) := by omega
            have hsec : ((bs.drop (20 + 16 * k)).take 16).length = 16 := by have := HM.out; simp; omega
            have hzsec : (u8s ((bs.drop (20 + 16 * k)).take 16)).length = 16 := by unfold u8s; simpa using hsec
            have HI : Hid ((Try.prog.info? 41).map (·.size) = some (u8s ((bs.drop (20 + 16 * k)).take 16)).length) := Lib.hid (by rw [hzsec]; kernel_rfl)
            have HSEC : Hid (∀ W, Below w.heap.size w W → W.rangeAt b (off + (20 + 16 * k)) (u8s ((bs.drop (20 + 16 * k)).take 16))) := Lib.hid (fun W hW j v hv => by
              have hj : j < 16 := by have := (List.getElem?_eq_some_iff.1 hv).1; omega
              unfold u8s at hv
              rw [List.getElem?_map, List.getElem?_take_of_lt hj, List.getElem?_drop] at hv
              obtain ⟨z, hz, rfl⟩ := Option.map_eq_some_iff.1 hv
              have := H.out.byte hW hz
              rw [show off + (20 + 16 * k) + j = off + (20 + 16 * k + j) by omega]
              exact this)
            have HF := Lib.hid (fill16 _ hzsec)
            go_upto_region 8 with (fail)
            obtain ⟨v', w1, hr, q1, q2, q3, q4⟩ := HD.out.push ((bs.drop (20 + 16 * k)).take 16) hsec hk8
            have HR := Lib.hid hr
            obtain ⟨A7, c7, rfl, _, _⟩ := own_form q4.row
            have HQ4 := Lib.hid q4
            clear hr q4
            refine wp_region_held_drew (S := fun W => Below w.heap.size w W) (by kernel_rfl) HD.out.below.drew (fun hS => ?_)
            refine wpAnyH_take (i := 0) (v := ?_) rfl (by kernel_rfl) (by kernel_rfl) (by kernel_rfl) (fun _ _ _ h => h) (Or.inl ⟨by rfl, ?_⟩) hS ?_
            rotate_left
            · intro w' hSw; go_simp; try rfl
            try simp only [Act.put, List.getElem_toArray, List.getElem_cons_succ, List.getElem_cons_zero, List.setIfInBounds_toArray, List.set_cons_zero, List.set_cons_succ]
            refine wpAnyH_take (i := 2) (v := ?_) rfl (by kernel_rfl) (by kernel_rfl) (by kernel_rfl) (fun _ _ _ h => h) (Or.inl ⟨by rfl, ?_⟩) hS ?_
            rotate_left
            · intro w' hSw; go_simp; try rfl
            try simp only [Act.put, List.getElem_toArray, List.getElem_cons_succ, List.getElem_cons_zero, List.setIfInBounds_toArray, List.set_cons_zero, List.set_cons_succ]
            refine wpAnyH_take (i := 3) (v := ?_) rfl (by kernel_rfl) (by kernel_rfl) (by kernel_rfl) (fun _ _ _ h => h) (Or.inl ⟨by rfl, ?_⟩) hS ?_
            rotate_left
            · intro w' hSw; go_simp; try rfl
            try simp only [Act.put, List.getElem_toArray, List.getElem_cons_succ, List.getElem_cons_zero, List.setIfInBounds_toArray, List.set_cons_zero, List.set_cons_succ]
            refine wpAnyH_take (i := 4) (v := ?_) rfl (by kernel_rfl) (by kernel_rfl) (by kernel_rfl) (fun _ _ _ h => h) (Or.inl ⟨by rfl, ?_⟩) hS ?_
            rotate_left
            · intro w' hSw; go_simp; try rfl
            try simp only [Act.put, List.getElem_toArray, List.getElem_cons_succ, List.getElem_cons_zero, List.setIfInBounds_toArray, List.set_cons_zero, List.set_cons_succ]
            refine wpAnyH_take (i := 5) rfl (by kernel_rfl) (by kernel_rfl) (by kernel_rfl) (fun _ _ _ h => h) (yieldsIf_load_mid (by rfl) 41 (.tmp 49) (by rfl) b (off + (20 + 16 * k)) (by rfl) (u8s ((bs.drop (20 + 16 * k)).take 16)) _ HSEC.out Try.underlying41 rfl HI.out) hS ?_
            try simp only [Act.put, List.getElem_toArray, List.getElem_cons_succ, List.getElem_cons_zero, List.setIfInBounds_toArray, List.set_cons_zero, List.set_cons_succ]
            refine wpAnyH_ready (rs := [1, 6]) (by kernel_rfl) (by simp) ?_
            refine AllReadyH.cons rfl (fun K hK => ?_) ?_
            · go_simp
              refine hK.out _ _ hS (fun hU => ?_)
              clear hK K hU
              try simp only [Act.put, List.getElem_toArray, List.getElem_cons_succ, List.getElem_cons_zero, List.setIfInBounds_toArray, List.set_cons_zero, List.set_cons_succ]
              refine wpAnyH_ready (rs := [6]) (by kernel_rfl) (by simp) ?_
              refine AllReadyH.cons rfl (fun K hK => ?_) AllReadyH.nil
              go_simp
              rw [HF.out]
              have hT := HD.out.below.trans ((balloc wr (.cells (u8s ((bs.drop (20 + 16 * k)).take 16)).toArray 41)).drew.mono HD.out.below.size)
              refine hK.out _ _ hT (fun hU => ?_)
              clear hK K hU hS
              have hS := hT
              clear hT
              try simp only [Act.put, List.getElem_toArray, List.getElem_cons_succ, List.getElem_cons_zero, List.setIfInBounds_toArray, List.set_cons_zero, List.set_cons_succ]
              refine wpAnyH_ready (rs := [7]) (by kernel_rfl) (by simp) ?_
              refine AllReadyH.cons rfl (fun K hK => ?_) AllReadyH.nil
              rw [if_pos (by rfl)]
              refine wp_append_ran (.tmp 46) (.tmp 51) 22 rfl (.slice A3 k c3) (.slice (some ⟨wr.heap.size, 0, none⟩) 1 1) (by rfl) (by rfl) (.slice A7 (k + 1) c7) w1 (by exact HR.out) ?_
              refine hK.out _ _ q3 (fun hU => ?_)
              clear hK K hU hS
              have hS := q3
              try simp only [Act.put, List.getElem_toArray, List.getElem_cons_succ, List.getElem_cons_zero, List.setIfInBounds_toArray, List.set_cons_zero, List.set_cons_succ]
              refine wpAnyH_take (i := 8) (v := ?_) rfl (by kernel_rfl) (by kernel_rfl) (by kernel_rfl) (fun _ _ _ h => h) (Or.inl ⟨by rfl, ?_⟩) hS ?_
              rotate_left
              · intro w' hSw; go_simp; try rfl
              try simp only [Act.put, List.getElem_toArray, List.getElem_cons_succ, List.getElem_cons_zero, List.setIfInBounds_toArray, List.set_cons_zero, List.set_cons_succ]
              refine wpAnyH_ready (rs := [9]) (by kernel_rfl) (by simp) ?_
              refine AllReadyH.cons rfl (fun K hK => ?_) AllReadyH.nil
              go_simp
              refine hK.out _ _ (Only.below q3 (Only.set (p := ⟨B5, 3, none⟩) (.slice A7 (k + 1) c7)) q3.size (by simp; omega)) (fun hU => ?_)
              clear hK K hU hS
              refine wpAnyH_done (by kernel_rfl) ?_ _
              by_cases hc16e : c = 16
              · obtain rfl := hc16e
                obtain rfl : m = 16 := by omega
                go_wp2_with (fail)
                go_roundg (9 - (k + 1))
                case measure => have := HQ.out; omega
                case rel => exact ⟨k + 1, 0, 0, _, _, by omega, by have := HM.out; omega, by have := HC.out; omega, rfl, fun h => absurd h (by omega), rfl, by rw [Nat.mul_succ, List.take_add, List.drop_drop]; exact HQ4.out⟩
              · have g1 : 16 < c := by omega
                have g2 : ¬ c ≤ 16 := by omega
                obtain ⟨m', rfl⟩ : ∃ m', m = m' + 16 := ⟨m - 16, by omega⟩
                obtain ⟨c', rfl⟩ : ∃ c', c = c' + 16 := ⟨c - 16, by omega⟩
                go_wp2_with (fail)
                go_roundg (9 - (k + 1))
                case measure => have := HQ.out; omega
                case rel => exact ⟨k + 1, m', c', _, _, by omega, by have := HM.out; omega, by have := HC.out; omega, rfl, fun _ => by rw [show off + (20 + 16 * (k + 1)) = off + (20 + 16 * k) + 16 by omega], rfl, by rw [Nat.mul_succ, List.take_add, List.drop_drop]; exact HQ4.out⟩
            refine AllReadyH.cons rfl (fun K hK => ?_) AllReadyH.nil
            go_simp
            rw [HF.out]
            have hT := HD.out.below.trans ((balloc wr (.cells (u8s ((bs.drop (20 + 16 * k)).take 16)).toArray 41)).drew.mono HD.out.below.size)
            refine hK.out _ _ hT (fun hU => ?_)
            clear hK K hU hS
            have hS := hT
            clear hT
            try simp only [Act.put, List.getElem_toArray, List.getElem_cons_succ, List.getElem_cons_zero, List.setIfInBounds_toArray, List.set_cons_zero, List.set_cons_succ]
            refine wpAnyH_ready (rs := [1]) (by kernel_rfl) (by simp) ?_
            refine AllReadyH.cons rfl (fun K hK => ?_) AllReadyH.nil
            have cB4 : (wr.alloc (.cells (u8s ((bs.drop (20 + 16 * k)).take 16)).toArray 41)).drew.cell? ⟨B5, 3, none⟩ = some (.slice A3 k c3) := by rw [cell_of_heap (HD.out.kept (balloc wr _).drew).cmd]; rfl
            go_simp
            refine hK.out _ _ hS (fun hU => ?_)
            clear hK K hU
            try simp only [Act.put, List.getElem_toArray, List.getElem_cons_succ, List.getElem_cons_zero, List.setIfInBounds_toArray, List.set_cons_zero, List.set_cons_succ]
            clear cB4
            refine wpAnyH_ready (rs := [7]) (by kernel_rfl) (by simp) ?_
            refine AllReadyH.cons rfl (fun K hK => ?_) AllReadyH.nil
            rw [if_pos (by rfl)]
            refine wp_append_ran (.tmp 46) (.tmp 51) 22 rfl (.slice A3 k c3) (.slice (some ⟨wr.heap.size, 0, none⟩) 1 1) (by rfl) (by rfl) (.slice A7 (k + 1) c7) w1 (by exact HR.out) ?_
            refine hK.out _ _ q3 (fun hU => ?_)
            clear hK K hU hS
            have hS := q3
            try simp only [Act.put, List.getElem_toArray, List.getElem_cons_succ, List.getElem_cons_zero, List.setIfInBounds_toArray, List.set_cons_zero, List.set_cons_succ]
            refine wpAnyH_take (i := 8) (v := ?_) rfl (by kernel_rfl) (by kernel_rfl) (by kernel_rfl) (fun _ _ _ h => h) (Or.inl ⟨by rfl, ?_⟩) hS ?_
            rotate_left
            · intro w' hSw; go_simp; try rfl
            try simp only [Act.put, List.getElem_toArray, List.getElem_cons_succ, List.getElem_cons_zero, List.setIfInBounds_toArray, List.set_cons_zero, List.set_cons_succ]
            refine wpAnyH_ready (rs := [9]) (by kernel_rfl) (by simp) ?_
            refine AllReadyH.cons rfl (fun K hK => ?_) AllReadyH.nil
            go_simp
            refine hK.out _ _ (Only.below q3 (Only.set (p := ⟨B5, 3, none⟩) (.slice A7 (k + 1) c7)) q3.size (by simp; omega)) (fun hU => ?_)
            clear hK K hU hS
            refine wpAnyH_done (by kernel_rfl) ?_ _
            by_cases hc16e : c = 16
            · obtain rfl := hc16e
              obtain rfl : m = 16 := by omega
              go_wp2_with (fail)
              go_roundg (9 - (k + 1))
              case measure => have := HQ.out; omega
              case rel => exact ⟨k + 1, 0, 0, _, _, by omega, by have := HM.out; omega, by have := HC.out; omega, rfl, fun h => absurd h (by omega), rfl, by rw [Nat.mul_succ, List.take_add, List.drop_drop]; exact HQ4.out⟩
            · have g1 : 16 < c := by omega
              have g2 : ¬ c ≤ 16 := by omega
              obtain ⟨m', rfl⟩ : ∃ m', m = m' + 16 := ⟨m - 16, by omega⟩
              obtain ⟨c', rfl⟩ : ∃ c', c = c' + 16 := ⟨c - 16, by omega⟩
              go_wp2_with (fail)
              go_roundg (9 - (k + 1))
              case measure => have := HQ.out; omega
              case rel => exact ⟨k + 1, m', c', _, _, by omega, by have := HM.out; omega, by have := HC.out; omega, rfl, fun _ => by rw [show off + (20 + 16 * (k + 1)) = off + (20 + 16 * k) + 16 by omega], rfl, by rw [Nat.mul_succ, List.take_add, List.drop_drop]; exact HQ4.out⟩
          · have hcq : (⟨b0, z4, z8, k, (bs.drop 20).take (16 * k), z12 % 18446744073709551616, z2, b1 == 1⟩ : Cmd) = prs bs := by
              have hM := HM.out
              have hkk : min 9 ((bs.length - 20) / 16) = k := by rw [hlen]; omega
              have q0 : bs.getD 0 0 = b0 := by rw [List.getD_eq_getElem?_getD, HE0.out]; rfl
              have q1 : bs.getD 1 0 = b1 := by rw [List.getD_eq_getElem?_getD, HE1.out]; rfl
              unfold prs
              rw [hkk, q0, q1, HQz2.out, HQz4.out, HQz8.out, HQz12.out, Nat.mul_comm]
            have hL9 : ((bs.drop 20).take (16 * k)).length = 16 * k := by have := HM.out; simp; omega
            have HCQ := Lib.hid hcq
            have HSQ : Hid (Secs wr (.slice A3 k c3) ⟨b0, z4, z8, k, (bs.drop 20).take (16 * k), z12 % 18446744073709551616, z2, b1 == 1⟩) := Lib.hid (Rd.of_own HD.out.row)
            have HBR : Hid (∀ x ∈ (bs.drop 20).take (16 * k), 0 ≤ x ∧ x ≤ 255) := Lib.hid (fun x hx => HBY.out x (List.mem_of_mem_drop (List.mem_of_mem_take hx)))
            clear hcq hL9
            generalize hL : (bs.drop 20).take (16 * k) = L at *
            clear hL
            have hk9 : k * 16 ≤ 140737488355328 := by omega
            have c1 : wr.cell? ⟨w.heap.size, 0, none⟩ = some (.slice (some ⟨b, off, none⟩) n cap) := by rw [cell_of_heap HD.out.box]; rfl
            have hkg : (16 : Int) ≤ (m : Int) → ¬ ((k : Int) ≤ 8) := by omega
            by_cases hm16 : 16 ≤ m
            · have e1 : (16 : Int) ≤ (m : Int) := by omega
              have e2 : ¬ ((k : Int) ≤ 8) := hkg e1
              clear hkg hgo
              go_upto_region 9 with (fail)
              clear e1
              by_cases hok : (Cmd.mk b0 z4 z8 k L (z12 % 18446744073709551616) z2 (b1 == 1)).plain.ok
              · have HC8 := Lib.hid (enc_ok _ _ wr HSQ.out hk9 hok)
                unfold Cmd.val at HC8
                go_upto_region 10 with (first
                  | (refine wpList_load_row rfl 25 _ rfl B5 rfl 25 _ (0, 0) _ HD.out.cmd Try.underlying25 rfl (by kernel_rfl) ?_)
                  | ((with_reducible refine (HC8.out).mono ?_); rintro e wy ⟨vy, rfl, hoy, hby⟩))
                have HDy := Lib.hid (HD.out.kept hby)
                have HRB := Lib.hid (bytes_range _ hok (plain_range _ HBR.out))
                have HOY := Lib.hid hoy
                have HSY := Lib.hid (HSQ.out.below hby)
                clear hby hoy HC8 c1 HD HSQ
                have c1 : wy.cell? ⟨w.heap.size, 0, none⟩ = some (.slice (some ⟨b, off, none⟩) n cap) := by rw [cell_of_heap HDy.out.box]; rfl
                have HEQ := Lib.hid (bytes_equal vy (.slice (some ⟨b, off, none⟩) n cap) _ n _ bs wy (Rd.of_own HOY.out) (H.out.below HDy.out.below) HRB.out HBY.out)
                by_cases heq : (Cmd.mk b0 z4 z8 k L (z12 % 18446744073709551616) z2 (b1 == 1)).plain.bytes = bs
                · rw [decide_eq_true heq] at HEQ
                  have HP := Lib.hid (plain_any _ _ wy HSY.out hk9)
                  have HFIN : Hid ((prs bs).plain.ok ∧ (prs bs).plain.bytes = bs) := Lib.hid (by rw [← HCQ.out]; exact ⟨hok, heq⟩)
                  unfold Cmd.val at HP
                  clear heq hok
                  go_upto_region 12 with ((with_reducible refine (HEQ.out).mono ?_); rintro e w' ⟨rfl, rfl⟩)
                  have HDz : Hid _ := HDy
                  clear HEQ HDy
                  go_wp2_with (refine wpList_load_row rfl 25 _ rfl B5 rfl 25 _ (0, 0) _ HDz.out.cmd Try.underlying25 rfl (by kernel_rfl) ?_)
                  with_reducible refine (HP.out).mono ?_
                  rintro e wz ⟨vz, rfl, hoz, hbz⟩
                  have hrz := (HDz.out.kept hbz).res
                  obtain ⟨A9, c9, rfl, _, _⟩ := own_form hoz
                  have HOZ := Lib.hid (own_lower hoz HDz.out.below.size)
                  have HBZ := Lib.hid (HDz.out.below.trans (hbz.mono HDz.out.below.size))
                  have HRZ := Lib.hid hrz
                  clear hoz hbz HP HDz hrz
                  go_wp2_with (refine wpList_store_row rfl 25 _ _ rfl (w.heap.size + 1) _ rfl rfl 25 _ HRZ.out (by kernel_rfl) rfl (row_one _ _ _ _ _ _ _ _ _) ?_)
                  refine bodyPost_ret (results_ct rfl _ _ (w.heap.size + 1) 25 _ (0, 0) _ rfl (heap_setRow HRZ.out _) Try.underlying25 rfl (by kernel_rfl)) rfl ?_
                  exact DecPost.yes (by rw [HCQ.out]) HFIN.out (own_kept HOZ.out (Only.setRow _) (fun k hk hm => by simp at hm; subst hm; exact own_blk HOZ.out HRZ.out (by decide) hk)) (Only.below HBZ.out (Only.setRow _) HBZ.out.size (by simp))
                · rw [decide_eq_false heq] at HEQ
                  have HFIN : Hid (¬ ((prs bs).plain.ok ∧ (prs bs).plain.bytes = bs)) := Lib.hid (by rw [← HCQ.out]; exact fun h => heq h.2)
                  clear heq hok
                  go_upto_region 11 with ((with_reducible refine (HEQ.out).mono ?_); rintro e w' ⟨rfl, rfl⟩)
                  go_wp2_with (refine wpList_store_row rfl 25 _ _ rfl (w.heap.size + 1) _ rfl rfl 25 _ HDy.out.res (by kernel_rfl) rfl (row_one _ _ _ _ _ _ _ _ _) ?_)
                  refine bodyPost_ret (results_ct rfl _ _ (w.heap.size + 1) 25 _ (0, 0) _ rfl (heap_setRow HDy.out.res _) Try.underlying25 rfl (by kernel_rfl)) rfl ?_
                  exact DecPost.no HFIN.out (Only.below HDy.out.below (Only.setRow _) HDy.out.below.size (by simp))
              · have HC8 := Lib.hid (enc_bad _ _ wr HSQ.out hk9 hok)
                have HFIN : Hid (¬ ((prs bs).plain.ok ∧ (prs bs).plain.bytes = bs)) := Lib.hid (by rw [← HCQ.out]; exact fun h => hok h.1)
                unfold Cmd.val at HC8
                go_upto_region 11 with (first
                  | (refine wpList_load_row rfl 25 _ rfl B5 rfl 25 _ (0, 0) _ HD.out.cmd Try.underlying25 rfl (by kernel_rfl) ?_)
                  | ((with_reducible refine (HC8.out).mono ?_); rintro e wy ⟨rfl, hby⟩))
                have HDy := Lib.hid (HD.out.kept hby)
                clear hby HC8 c1 HD HSQ
                go_wp2_with (first
                  | (refine wpList_store_row rfl 25 _ _ rfl (w.heap.size + 1) _ rfl rfl 25 _ HDy.out.res (by kernel_rfl) rfl (row_one _ _ _ _ _ _ _ _ _) ?_))
                refine bodyPost_ret (results_ct rfl _ _ (w.heap.size + 1) 25 _ (0, 0) _ rfl (heap_setRow HDy.out.res _) Try.underlying25 rfl (by kernel_rfl)) rfl ?_
                exact DecPost.no HFIN.out (Only.below HDy.out.below (Only.setRow _) HDy.out.below.size (by simp))
            · have e1 : ¬ (16 : Int) ≤ (m : Int) := by omega
              clear hkg hgo
              go_upto_region 9 with (fail)
              clear e1
              by_cases hok : (Cmd.mk b0 z4 z8 k L (z12 % 18446744073709551616) z2 (b1 == 1)).plain.ok
              · have HC8 := Lib.hid (enc_ok _ _ wr HSQ.out hk9 hok)
                unfold Cmd.val at HC8
                go_upto_region 10 with (first
                  | (refine wpList_load_row rfl 25 _ rfl B5 rfl 25 _ (0, 0) _ HD.out.cmd Try.underlying25 rfl (by kernel_rfl) ?_)
                  | ((with_reducible refine (HC8.out).mono ?_); rintro e wy ⟨vy, rfl, hoy, hby⟩))
                have HDy := Lib.hid (HD.out.kept hby)
                have HRB := Lib.hid (bytes_range _ hok (plain_range _ HBR.out))
                have HOY := Lib.hid hoy
                have HSY := Lib.hid (HSQ.out.below hby)
                clear hby hoy HC8 c1 HD HSQ
                have c1 : wy.cell? ⟨w.heap.size, 0, none⟩ = some (.slice (some ⟨b, off, none⟩) n cap) := by rw [cell_of_heap HDy.out.box]; rfl
                have HEQ := Lib.hid (bytes_equal vy (.slice (some ⟨b, off, none⟩) n cap) _ n _ bs wy (Rd.of_own HOY.out) (H.out.below HDy.out.below) HRB.out HBY.out)
                by_cases heq : (Cmd.mk b0 z4 z8 k L (z12 % 18446744073709551616) z2 (b1 == 1)).plain.bytes = bs
                · rw [decide_eq_true heq] at HEQ
                  have HP := Lib.hid (plain_any _ _ wy HSY.out hk9)
                  have HFIN : Hid ((prs bs).plain.ok ∧ (prs bs).plain.bytes = bs) := Lib.hid (by rw [← HCQ.out]; exact ⟨hok, heq⟩)
                  unfold Cmd.val at HP
                  clear heq hok
                  go_upto_region 12 with ((with_reducible refine (HEQ.out).mono ?_); rintro e w' ⟨rfl, rfl⟩)
                  have HDz : Hid _ := HDy
                  clear HEQ HDy
                  go_wp2_with (refine wpList_load_row rfl 25 _ rfl B5 rfl 25 _ (0, 0) _ HDz.out.cmd Try.underlying25 rfl (by kernel_rfl) ?_)
                  with_reducible refine (HP.out).mono ?_
                  rintro e wz ⟨vz, rfl, hoz, hbz⟩
                  have hrz := (HDz.out.kept hbz).res
                  obtain ⟨A9, c9, rfl, _, _⟩ := own_form hoz
                  have HOZ := Lib.hid (own_lower hoz HDz.out.below.size)
                  have HBZ := Lib.hid (HDz.out.below.trans (hbz.mono HDz.out.below.size))
                  have HRZ := Lib.hid hrz
                  clear hoz hbz HP HDz hrz
                  go_wp2_with (refine wpList_store_row rfl 25 _ _ rfl (w.heap.size + 1) _ rfl rfl 25 _ HRZ.out (by kernel_rfl) rfl (row_one _ _ _ _ _ _ _ _ _) ?_)
                  refine bodyPost_ret (results_ct rfl _ _ (w.heap.size + 1) 25 _ (0, 0) _ rfl (heap_setRow HRZ.out _) Try.underlying25 rfl (by kernel_rfl)) rfl ?_
                  exact DecPost.yes (by rw [HCQ.out]) HFIN.out (own_kept HOZ.out (Only.setRow _) (fun k hk hm => by simp at hm; subst hm; exact own_blk HOZ.out HRZ.out (by decide) hk)) (Only.below HBZ.out (Only.setRow _) HBZ.out.size (by simp))
                · rw [decide_eq_false heq] at HEQ
                  have HFIN : Hid (¬ ((prs bs).plain.ok ∧ (prs bs).plain.bytes = bs)) := Lib.hid (by rw [← HCQ.out]; exact fun h => heq h.2)
                  clear heq hok
                  go_upto_region 11 with ((with_reducible refine (HEQ.out).mono ?_); rintro e w' ⟨rfl, rfl⟩)
                  go_wp2_with (refine wpList_store_row rfl 25 _ _ rfl (w.heap.size + 1) _ rfl rfl 25 _ HDy.out.res (by kernel_rfl) rfl (row_one _ _ _ _ _ _ _ _ _) ?_)
                  refine bodyPost_ret (results_ct rfl _ _ (w.heap.size + 1) 25 _ (0, 0) _ rfl (heap_setRow HDy.out.res _) Try.underlying25 rfl (by kernel_rfl)) rfl ?_
                  exact DecPost.no HFIN.out (Only.below HDy.out.below (Only.setRow _) HDy.out.below.size (by simp))
              · have HC8 := Lib.hid (enc_bad _ _ wr HSQ.out hk9 hok)
                have HFIN : Hid (¬ ((prs bs).plain.ok ∧ (prs bs).plain.bytes = bs)) := Lib.hid (by rw [← HCQ.out]; exact fun h => hok h.1)
                unfold Cmd.val at HC8
                go_upto_region 11 with (first
                  | (refine wpList_load_row rfl 25 _ rfl B5 rfl 25 _ (0, 0) _ HD.out.cmd Try.underlying25 rfl (by kernel_rfl) ?_)
                  | ((with_reducible refine (HC8.out).mono ?_); rintro e wy ⟨rfl, hby⟩))
                have HDy := Lib.hid (HD.out.kept hby)
                clear hby HC8 c1 HD HSQ
                go_wp2_with (first
                  | (refine wpList_store_row rfl 25 _ _ rfl (w.heap.size + 1) _ rfl rfl 25 _ HDy.out.res (by kernel_rfl) rfl (row_one _ _ _ _ _ _ _ _ _) ?_))
                refine bodyPost_ret (results_ct rfl _ _ (w.heap.size + 1) 25 _ (0, 0) _ rfl (heap_setRow HDy.out.res _) Try.underlying25 rfl (by kernel_rfl)) rfl ?_
                exact DecPost.no HFIN.out (Only.below HDy.out.below (Only.setRow _) HDy.out.below.size (by simp))
end Go.Proofs.Ytlkibkemmmppcaa.Wd
