/- The walk of CdbPlains. -/
import Derived.Test.YtlkibkemmmppcaaSec
import Derived.Test.YtlkibkemmmppcaaAwk
import Derived.Test.YtlkibkemmmppcaaChk
import Derived.Test.YtlkibkemmmppcaaRpl
import Derived.Test.YtlkibkemmmppcaaCin

namespace Go.Proofs.Ytlkibkemmmppcaa.Wd
open Go.RowKit
set_option linter.unusedVariables false
set_option linter.unusedSimpArgs false
/-- Where the law stands: the three boxes, the two commands of its own. -/
structure Ps (w0 w : World) (b5 b6 bp : Nat) (C X P : Array Value) (xv pv : Value) (c p : Cmd) : Prop where
  x2 : w.heap[w0.heap.size]? = some (.cells C 25 (0, 0))
  x5 : w.heap[b5]? = some (.cells X 25 (0, 0))
  x6 : w.heap[b6]? = some (.cells P 25 (0, 0))
  sx : Own w (w0.heap.size + 1) xv c
  sp : Own w bp pv p
  below : Below w0.heap.size w0 w
theorem Ps.kept {w0 w w' : World} {b5 b6 bp : Nat} {C X P : Array Value} {xv pv : Value} {c p : Cmd} (h : Ps w0 w b5 b6 bp C X P xv pv c p) (hb : Below w.heap.size w w') : Ps w0 w' b5 b6 bp C X P xv pv c p :=
  ⟨(hb.block _ (lt_of_heap h.x2)).trans h.x2, (hb.block _ (lt_of_heap h.x5)).trans h.x5, (hb.block _ (lt_of_heap h.x6)).trans h.x6, own_below h.sx hb, own_below h.sp hb, h.below.trans (hb.mono h.below.size)⟩
theorem Ps.drew_ {w0 w : World} {b5 b6 bp : Nat} {C X P : Array Value} {xv pv : Value} {c p : Cmd} (h : Ps w0 w b5 b6 bp C X P xv pv c p) : Ps w0 w.drew b5 b6 bp C X P xv pv c p := h.kept (Below.refl _ _).drew
theorem Only.setCells {r : Nat} : ∀ (vs : List Value) (o : Nat) (w : World), Only [r] w (w.setCells r o vs)
  | [], _, w => Only.refl _ w
  | v :: vs, o, w => (Only.set (p := ⟨r, o, none⟩) v).trans (Only.setCells vs (o + 1) _) (fun x hx => .inl hx)
theorem l99_one : (#[.int .u8 99, .int .u8 0, .int .u8 0, .int .u8 0, .int .u8 0, .int .u8 0, .int .u8 0, .int .u8 0, .int .u8 0, .int .u8 0, .int .u8 0, .int .u8 0, .int .u8 0, .int .u8 0, .int .u8 0, .int .u8 0] : Array Value).all (·.oneCell') = true := by simp [Value.oneCell']
set_option maxRecDepth 100000 in
set_option maxHeartbeats 8000000 in
theorem plains_walk (c : Cmd) (dv : Value) (cap : Int) (w : World) (hs : Secs w dv c) (hl : c.n * 16 ≤ 140737488355328) (hc : (Lit.int .i64 cap).wf = true) :
    Calls Try.prog 6 #[c.val dv, .int .i64 cap] w fun e w' => e = .returned (.bool true) ∧ Below w.heap.size w w' := by
  obtain ⟨A, cp, rfl, hn1, hm1⟩ : ∃ A cp, dv = .slice A c.n cp ∧ c.n ≤ cp ∧ cp ≤ maxLen := by
    obtain ⟨_, A, cp, h1, h2, h3, _⟩ := hs; exact ⟨A, cp, h1, h2, h3⟩
  have HC := Lib.hid hc
  have HS := Lib.hid (fun W (hW : Below w.heap.size w W) => hs.below hW)
  have hB1 : ∀ o, Below w.heap.size w (w.alloc o) := fun o => balloc w o
  have hX1 : ∀ cs, (w.alloc (.cells cs 25)).heap[w.heap.size]? = some (.cells cs 25 (0, 0)) := fun cs => heap_alloc_new w _
  have hz1 : ∀ o, (w.alloc o).heap.size = w.heap.size + 1 := fun o => by simp
  obtain ⟨p, hp⟩ : ∃ p, p = c.plain := ⟨_, rfl⟩
  have hpl : p.n * 16 ≤ 140737488355328 := by
    rw [hp]; show (if c.kind = 3 ∨ c.kind = 5 then c.n else 0) * 16 ≤ _; split <;> omega
  clear hs hc
  have C1 := Lib.hid (fun o => own_any c (.slice A c.n cp) (w.alloc o) (HS.out _ (hB1 o)) hl)
  have R15 : ∀ W, Below w.heap.size w W → Calls Try.prog 15 #[c.val (.slice A c.n cp)] W fun e w' => ∃ dv', e = .returned (p.val dv') ∧ Own w' W.heap.size dv' p ∧ Below W.heap.size W w' := fun W hW => by rw [hp]; exact rplain_any c _ W (HS.out W hW) hl
  have P17 : ∀ xv W, Secs W xv c → Calls Try.prog 17 #[c.val xv] W fun e w' => ∃ dv', e = .returned (p.val dv') ∧ Own w' W.heap.size dv' p ∧ Below W.heap.size W w' := fun xv W h => by rw [hp]; exact plain_any c xv W h hl
  have K18 : ∀ xv W, Secs W xv c → Calls Try.prog 18 #[c.val xv, .int .i64 cap] W fun e w' => e = .returned (.int .i64 (c.chk cap)) ∧ Below W.heap.size W w' := fun xv W h => check_any c xv cap W h HC.out
  have K19 : ∀ xv W, Secs W xv c → Calls Try.prog 19 #[c.val xv, .int .i64 cap] W fun e w' => e = .returned (.int .i64 (c.chk cap)) ∧ Below W.heap.size W w' := fun xv W h => rcheck_any c xv cap W h HC.out
  have S14 : ∀ xv ev W, Secs W xv c → Secs W ev c → Calls Try.prog 14 #[c.val xv, c.val ev] W fun e w' => e = .returned (.bool true) ∧ Below W.heap.size W w' := fun xv ev W h h' => same_yes c xv ev W h h'
  have S14p : ∀ xv ev W, Secs W xv p → Secs W ev p → Calls Try.prog 14 #[p.val xv, p.val ev] W fun e w' => e = .returned (.bool true) ∧ Below W.heap.size W w' := fun xv ev W h h' => same_yes p xv ev W h h'
  generalize c.chk cap = ck at K18 K19
  have HK18 := Lib.hid K18
  have HK19 := Lib.hid K19
  have HS14 := Lib.hid S14
  have HS14p := Lib.hid S14p
  have HR15 := Lib.hid R15
  have HP17 := Lib.hid P17
  clear hp K18 K19 S14 S14p R15 P17
  obtain ⟨kind, lba, count, n, bs, key, res, keep⟩ := c
  simp only [Cmd.val] at C1 HK18 HK19 HS14 HS14p HR15 HP17
  simp only at hn1 hl HS
  unfold Cmd.val
  go_enter Try.func6, Try.ntmps6
  go_wp2_with (fail)
  refine (C1.out _).mono ?_
  rintro e w1 ⟨xv, rfl, ho1, hb1⟩
  rw [hz1] at ho1
  have hX2 := (hb1.block w.heap.size (by rw [hz1]; omega)).trans (hX1 _)
  have hbb1 := (hB1 _).trans (hb1.mono (hB1 _).size)
  obtain ⟨A1, cp1, rfl, _, _⟩ := own_form ho1
  have hk1 : ∀ k, (Value.slice A1 n cp1).ownBlock = some k → k < w1.heap.size := fun k hk => (ho1.lt k hk).2
  clear hb1 hB1 hX1 hz1 C1
  have hY5 := heap_alloc_new w1 (.cells #[.int .i64 kind, .int .i64 lba, .int .i64 count, .slice A1 n cp1, .int .u64 key, .int .i64 res, .bool keep] 25)
  have hB5 := balloc w1 (.cells #[.int .i64 kind, .int .i64 lba, .int .i64 count, .slice A1 n cp1, .int .u64 key, .int .i64 res, .bool keep] 25)
  have hX25 := (hB5.block _ (lt_of_heap hX2)).trans hX2
  have ho5 := own_below ho1 hB5
  have hbb5 := hbb1.trans (hB5.mono hbb1.size)
  have hz5 : (w1.alloc (.cells #[.int .i64 kind, .int .i64 lba, .int .i64 count, .slice A1 n cp1, .int .u64 key, .int .i64 res, .bool keep] 25)).heap.size = w1.heap.size + 1 := by simp
  clear hB5 ho1 hX2
  have HP5 := Lib.hid (HP17.out (.slice A1 n cp1) (w1.alloc (.cells #[.int .i64 kind, .int .i64 lba, .int .i64 count, .slice A1 n cp1, .int .u64 key, .int .i64 res, .bool keep] 25)) (Own.secs (c := Cmd.mk kind lba count n bs key res keep) ho5))
  go_wp2_with (fail)
  refine HP5.out.mono ?_
  rintro e w2 ⟨pv, rfl, ho2, hb2⟩
  rw [hz5] at ho2
  have hX22 := (hb2.block _ (lt_of_heap hX25)).trans hX25
  have hX55 := (hb2.block _ (lt_of_heap hY5)).trans hY5
  have hox := own_below ho5 hb2
  have hbb2 := hbb5.trans (hb2.mono hbb5.size)
  obtain ⟨A2, cp2, rfl, _, hm2⟩ := own_form ho2
  clear hb2 hX25 hY5 ho5 hbb5 HP5 HP17
  have hY6 := heap_alloc_new w2 (.cells #[.int .i64 p.kind, .int .i64 p.lba, .int .i64 p.count, .slice A2 p.n cp2, .int .u64 p.key, .int .i64 p.res, .bool p.keep] 25)
  have hB6 := balloc w2 (.cells #[.int .i64 p.kind, .int .i64 p.lba, .int .i64 p.count, .slice A2 p.n cp2, .int .u64 p.key, .int .i64 p.res, .bool p.keep] 25)
  have T : Ps w (w2.alloc (.cells #[.int .i64 p.kind, .int .i64 p.lba, .int .i64 p.count, .slice A2 p.n cp2, .int .u64 p.key, .int .i64 p.res, .bool p.keep] 25)) w1.heap.size w2.heap.size (w1.heap.size + 1) #[.int .i64 kind, .int .i64 lba, .int .i64 count, .slice A n cp, .int .u64 key, .int .i64 res, .bool keep] #[.int .i64 kind, .int .i64 lba, .int .i64 count, .slice A1 n cp1, .int .u64 key, .int .i64 res, .bool keep] #[.int .i64 p.kind, .int .i64 p.lba, .int .i64 p.count, .slice A2 p.n cp2, .int .u64 p.key, .int .i64 p.res, .bool p.keep] (.slice A1 n cp1) (.slice A2 p.n cp2) ⟨kind, lba, count, n, bs, key, res, keep⟩ p :=
    ⟨(hB6.block _ (lt_of_heap hX22)).trans hX22, (hB6.block _ (lt_of_heap hX55)).trans hX55, hY6, own_below hox hB6, own_below ho2 hB6, hbb2.trans (hB6.mono hbb2.size)⟩
  have HT := Lib.hid T
  have h12 : w.heap.size ≤ w1.heap.size := hbb1.size
  clear hY6 hB6 T hX22 hX55 hox ho2 hbb2 hbb1
  go_upto_region 3 with (fail)
  generalize w2.alloc (.cells #[.int .i64 p.kind, .int .i64 p.lba, .int .i64 p.count, .slice A2 p.n cp2, .int .u64 p.key, .int .i64 p.res, .bool p.keep] 25) = w3 at *
  generalize w2.heap.size = b6 at *
  generalize hb5 : w1.heap.size = b5 at *
  clear hb5 hz5
  refine wp_region_held_drew (S := fun W => Ps w W b5 b6 (b5 + 1) #[.int .i64 kind, .int .i64 lba, .int .i64 count, .slice A n cp, .int .u64 key, .int .i64 res, .bool keep] #[.int .i64 kind, .int .i64 lba, .int .i64 count, .slice A1 n cp1, .int .u64 key, .int .i64 res, .bool keep] #[.int .i64 p.kind, .int .i64 p.lba, .int .i64 p.count, .slice A2 p.n cp2, .int .u64 p.key, .int .i64 p.res, .bool p.keep] (.slice A1 n cp1) (.slice A2 p.n cp2) ⟨kind, lba, count, n, bs, key, res, keep⟩ p) (by kernel_rfl) HT.out.drew_ (fun hS => ?_)
  refine wpAnyH_ready (rs := [0]) (by kernel_rfl) (by simp) ?_
  refine AllReadyH.cons rfl (fun K hK => ?_) AllReadyH.nil
  go_simp
  refine (awake_any _).mono ?_
  rintro e wy ⟨rfl, hby⟩
  have hT := hS.kept hby
  clear hby
  go_wp2_with (fail)
  refine hK.out _ _ hT (fun hU => ?_)
  clear hK K hU hS
  have hS := hT
  clear hT
  try simp only [Act.put, List.getElem_toArray, List.getElem_cons_succ, List.getElem_cons_zero, List.setIfInBounds_toArray, List.set_cons_zero, List.set_cons_succ]
  refine wpAnyH_take (i := 1) (v := ?_) rfl (by kernel_rfl) (by kernel_rfl) (by kernel_rfl) (fun _ _ _ h => h) (Or.inl ⟨by rfl, ?_⟩) hS ?_
  rotate_left
  · intro w' hSw; go_simp; try rfl
  try simp only [Act.put, List.getElem_toArray, List.getElem_cons_succ, List.getElem_cons_zero, List.setIfInBounds_toArray, List.set_cons_zero, List.set_cons_succ]
  refine wpAnyH_take (i := 2) (v := ?_) rfl (by kernel_rfl) (by kernel_rfl) (by kernel_rfl) (fun _ _ _ h => h) (Or.inl ⟨by rfl, ?_⟩) hS ?_
  rotate_left
  · intro w' hSw; go_simp; try rfl
  try simp only [Act.put, List.getElem_toArray, List.getElem_cons_succ, List.getElem_cons_zero, List.setIfInBounds_toArray, List.set_cons_zero, List.set_cons_succ]
  refine wpAnyH_take (i := 3) (v := .agg #[.int .i64 p.kind, .int .i64 p.lba, .int .i64 p.count, .slice A2 p.n cp2, .int .u64 p.key, .int .i64 p.res, .bool p.keep]) rfl (by kernel_rfl) (by kernel_rfl) (by kernel_rfl) (fun _ _ _ h => h) (Or.inl ⟨by rfl, ?_⟩) hS ?_
  · intro w' hSw
    exact exec_load_row 25 _ rfl b6 rfl 25 _ (0, 0) _ hSw.x6 Try.underlying25 rfl (by kernel_rfl)
  try simp only [Act.put, List.getElem_toArray, List.getElem_cons_succ, List.getElem_cons_zero, List.setIfInBounds_toArray, List.set_cons_zero, List.set_cons_succ]
  refine wpAnyH_take (i := 4) (v := .agg #[.int .i64 kind, .int .i64 lba, .int .i64 count, .slice A n cp, .int .u64 key, .int .i64 res, .bool keep]) rfl (by kernel_rfl) (by kernel_rfl) (by kernel_rfl) (fun _ _ _ h => h) (Or.inl ⟨by rfl, ?_⟩) hS ?_
  · intro w' hSw
    exact exec_load_row 25 _ rfl w.heap.size rfl 25 _ (0, 0) _ hSw.x2 Try.underlying25 rfl (by kernel_rfl)
  try simp only [Act.put, List.getElem_toArray, List.getElem_cons_succ, List.getElem_cons_zero, List.setIfInBounds_toArray, List.set_cons_zero, List.set_cons_succ]
  refine wpAnyH_ready (rs := [5]) (by kernel_rfl) (by simp) ?_
  refine AllReadyH.cons rfl (fun K hK => ?_) AllReadyH.nil
  go_simp
  refine (HR15.out _ hS.below).mono ?_
  rintro e wy ⟨rv, rfl, hor, hby⟩
  have hT := hS.kept hby
  have HRV := Lib.hid (Own.secs hor)
  clear hor
  obtain ⟨Ar, cpr, rfl, _, _⟩ : ∃ A cp, rv = .slice A p.n cp ∧ p.n ≤ cp ∧ cp ≤ maxLen := by
    obtain ⟨_, A, cp, h1, h2, h3, _⟩ := HRV.out; exact ⟨A, cp, h1, h2, h3⟩
  clear hby
  go_wp2_with (fail)
  refine hK.out _ _ hT (fun hU => ?_)
  clear hK K hU hS
  have hS := hT
  clear hT
  try simp only [Act.put, List.getElem_toArray, List.getElem_cons_succ, List.getElem_cons_zero, List.setIfInBounds_toArray, List.set_cons_zero, List.set_cons_succ]
  refine wpAnyH_ready (rs := [6]) (by kernel_rfl) (by simp) ?_
  refine AllReadyH.cons rfl (fun K hK => ?_) AllReadyH.nil
  go_simp
  refine (HS14p.out _ _ _ (Own.secs hS.sp) HRV.out).mono ?_
  rintro e wy ⟨rfl, hby⟩
  have hT := hS.kept hby
  clear hby
  go_wp2_with (fail)
  refine hK.out _ _ hT (fun hU => ?_)
  clear hK K hU hS
  have hS := hT
  clear hT
  try simp only [Act.put, List.getElem_toArray, List.getElem_cons_succ, List.getElem_cons_zero, List.setIfInBounds_toArray, List.set_cons_zero, List.set_cons_succ]
  refine wpAnyH_take (i := 7) (v := ?_) rfl (by kernel_rfl) (by kernel_rfl) (by kernel_rfl) (fun _ _ _ h => h) (Or.inl ⟨by rfl, ?_⟩) hS ?_
  rotate_left
  · intro w' hSw; go_simp; try rfl
  try simp only [Act.put, List.getElem_toArray, List.getElem_cons_succ, List.getElem_cons_zero, List.setIfInBounds_toArray, List.set_cons_zero, List.set_cons_succ]
  refine wpAnyH_take (i := 8) (v := ?_) rfl (by kernel_rfl) (by kernel_rfl) (by kernel_rfl) (fun _ _ _ h => h) (Or.inl ⟨by rfl, ?_⟩) hS ?_
  rotate_left
  · intro w' hSw; go_simp; try rfl
  try simp only [Act.put, List.getElem_toArray, List.getElem_cons_succ, List.getElem_cons_zero, List.setIfInBounds_toArray, List.set_cons_zero, List.set_cons_succ]
  refine wpAnyH_take (i := 9) (v := ?_) rfl (by kernel_rfl) (by kernel_rfl) (by kernel_rfl) (fun _ _ _ h => h) (Or.inl ⟨by rfl, ?_⟩) hS ?_
  rotate_left
  · intro w' hSw; go_simp; try rfl
  try simp only [Act.put, List.getElem_toArray, List.getElem_cons_succ, List.getElem_cons_zero, List.setIfInBounds_toArray, List.set_cons_zero, List.set_cons_succ]
  refine wpAnyH_take (i := 10) (v := .agg #[.int .i64 kind, .int .i64 lba, .int .i64 count, .slice A1 n cp1, .int .u64 key, .int .i64 res, .bool keep]) rfl (by kernel_rfl) (by kernel_rfl) (by kernel_rfl) (fun _ _ _ h => h) (Or.inl ⟨by rfl, ?_⟩) hS ?_
  · intro w' hSw
    exact exec_load_row 25 _ rfl b5 rfl 25 _ (0, 0) _ hSw.x5 Try.underlying25 rfl (by kernel_rfl)
  try simp only [Act.put, List.getElem_toArray, List.getElem_cons_succ, List.getElem_cons_zero, List.setIfInBounds_toArray, List.set_cons_zero, List.set_cons_succ]
  refine wpAnyH_take (i := 11) (v := ?_) rfl (by kernel_rfl) (by kernel_rfl) (by kernel_rfl) (fun _ _ _ h => h) (Or.inl ⟨by rfl, ?_⟩) hS ?_
  rotate_left
  · intro w' hSw; go_simp; try rfl
  try simp only [Act.put, List.getElem_toArray, List.getElem_cons_succ, List.getElem_cons_zero, List.setIfInBounds_toArray, List.set_cons_zero, List.set_cons_succ]
  refine wpAnyH_take (i := 13) (v := .agg #[.int .i64 kind, .int .i64 lba, .int .i64 count, .slice A n cp, .int .u64 key, .int .i64 res, .bool keep]) rfl (by kernel_rfl) (by kernel_rfl) (by kernel_rfl) (fun _ _ _ h => h) (Or.inl ⟨by rfl, ?_⟩) hS ?_
  · intro w' hSw
    exact exec_load_row 25 _ rfl w.heap.size rfl 25 _ (0, 0) _ hSw.x2 Try.underlying25 rfl (by kernel_rfl)
  try simp only [Act.put, List.getElem_toArray, List.getElem_cons_succ, List.getElem_cons_zero, List.setIfInBounds_toArray, List.set_cons_zero, List.set_cons_succ]
  refine wpAnyH_take (i := 14) (v := ?_) rfl (by kernel_rfl) (by kernel_rfl) (by kernel_rfl) (fun _ _ _ h => h) (Or.inl ⟨by rfl, ?_⟩) hS ?_
  rotate_left
  · intro w' hSw; go_simp; try rfl
  try simp only [Act.put, List.getElem_toArray, List.getElem_cons_succ, List.getElem_cons_zero, List.setIfInBounds_toArray, List.set_cons_zero, List.set_cons_succ]
  refine wpAnyH_ready (rs := [12]) (by kernel_rfl) (by simp) ?_
  refine AllReadyH.cons rfl (fun K hK => ?_) AllReadyH.nil
  go_simp
  refine (HK18.out _ _ (Own.secs hS.sx)).mono ?_
  rintro e wy ⟨rfl, hby⟩
  have hT := hS.kept hby
  clear hby
  go_wp2_with (fail)
  refine hK.out _ _ hT (fun hU => ?_)
  clear hK K hU hS
  have hS := hT
  clear hT
  try simp only [Act.put, List.getElem_toArray, List.getElem_cons_succ, List.getElem_cons_zero, List.setIfInBounds_toArray, List.set_cons_zero, List.set_cons_succ]
  refine wpAnyH_ready (rs := [15]) (by kernel_rfl) (by simp) ?_
  refine AllReadyH.cons rfl (fun K hK => ?_) AllReadyH.nil
  go_simp
  refine (HK19.out _ _ (HS.out _ hS.below)).mono ?_
  rintro e wy ⟨rfl, hby⟩
  have hT := hS.kept hby
  clear hby
  go_wp2_with (fail)
  refine hK.out _ _ hT (fun hU => ?_)
  clear hK K hU hS
  have hS := hT
  clear hT
  try simp only [Act.put, List.getElem_toArray, List.getElem_cons_succ, List.getElem_cons_zero, List.setIfInBounds_toArray, List.set_cons_zero, List.set_cons_succ]
  have hnn : (ck != ck) = false := bne_self_eq_false _
  refine wpAnyH_take (i := 16) (v := ?_) rfl (by kernel_rfl) (by kernel_rfl) (by kernel_rfl) (fun _ _ _ h => h) (Or.inl ⟨by rfl, ?_⟩) hS ?_
  rotate_left
  · intro w' hSw; go_simp; try rfl
  try simp only [Act.put, List.getElem_toArray, List.getElem_cons_succ, List.getElem_cons_zero, List.setIfInBounds_toArray, List.set_cons_zero, List.set_cons_succ]
  refine wpAnyH_take (i := 17) (v := ?_) rfl (by kernel_rfl) (by kernel_rfl) (by kernel_rfl) (fun _ _ _ h => h) (Or.inl ⟨by rfl, ?_⟩) hS ?_
  rotate_left
  · intro w' hSw; go_simp; try rfl
  try simp only [Act.put, List.getElem_toArray, List.getElem_cons_succ, List.getElem_cons_zero, List.setIfInBounds_toArray, List.set_cons_zero, List.set_cons_succ]
  refine wpAnyH_done (by kernel_rfl) ?_ _
  have HP := Lib.hid hS
  clear hS HRV HK18 HK19 HR15 HS14p
  have hrp : ∀ rp, A2 = some ⟨rp, 0, none⟩ → b5 + 1 ≤ rp ∧ rp ≠ b6 ∧ wy.there rp 0 (p.n * 16) := by
    rintro rp rfl
    refine ⟨(HP.out.sp.lt rp rfl).1, fun e => ?_, fun j hj => ?_⟩
    · subst e; exact own_blk HP.out.sp HP.out.x6 (by decide) rfl
    · rw [Nat.zero_add]
      refine ⟨?_, own_frozen HP.out.sp j⟩
      rw [own_cell HP.out.sp hj, List.getElem?_eq_getElem (by rw [HP.out.sp.1]; exact hj)]
      rfl
  have hra : 0 < p.n → ∃ rp, A2 = some ⟨rp, 0, none⟩ := fun h => by obtain ⟨r, hr, _⟩ := own_addr HP.out.sp h; exact ⟨r, hr⟩
  have hrq : ∀ rp, A2 = some ⟨rp, 0, none⟩ → b5 + 1 ≤ rp ∧ rp ≠ b6 := fun rp h => ⟨(hrp rp h).1, (hrp rp h).2.1⟩
  have hrt : ∀ rp, A2 = some ⟨rp, 0, none⟩ → wy.there rp 0 (p.n * 16) := fun rp h => (hrp rp h).2.2
  have HRT := Lib.hid hrt
  clear hrp hrt
  have hmx : p.n ≤ 9223372036854775807 := by omega
  go_wp2_with (fail)
  go_loopg [7] (p.n) (fun q v7 wr => ∃ i : Nat, i ≤ p.n ∧ v7 = .int .i64 i ∧ q = p.n - i ∧ wr.heap[w.heap.size]? = some (.cells #[.int .i64 kind, .int .i64 lba, .int .i64 count, .slice A n cp, .int .u64 key, .int .i64 res, .bool keep] 25 (0, 0)) ∧ wr.heap[b5]? = some (.cells #[.int .i64 kind, .int .i64 lba, .int .i64 count, .slice A1 n cp1, .int .u64 key, .int .i64 res, .bool keep] 25 (0, 0)) ∧ wr.heap[b6]? = some (.cells #[.int .i64 p.kind, .int .i64 p.lba, .int .i64 p.count, .slice A2 p.n cp2, .int .u64 p.key, .int .i64 p.res, .bool p.keep] 25 (0, 0)) ∧ wr.ownsRow (w.heap.size + 1) 41 16 (.slice A1 n cp1) n (u8s bs) ∧ (∀ rp, A2 = some ⟨rp, 0, none⟩ → wr.there rp 0 (p.n * 16)) ∧ Below w.heap.size w wr)
  case atStart => exact ⟨0, by omega, rfl, rfl, HP.out.x2, HP.out.x5, HP.out.x6, HP.out.sx, HRT.out, HP.out.below⟩
  case round =>
    clear HP HRT HT
    obtain ⟨i, hi, rfl, hq, hx2, hx5, hx6, hsx, hth, hb⟩ := hrel
    have HQ := Lib.hid hq
    have HX2 := Lib.hid hx2
    have HX5 := Lib.hid hx5
    have HX6 := Lib.hid hx6
    have HSX := Lib.hid hsx
    have HTH := Lib.hid hth
    have HB := Lib.hid hb
    clear hq hx2 hx5 hx6 hsx hth hb
    by_cases hlt : i < p.n
    · obtain ⟨rp, rfl⟩ := hra (by omega)
      obtain ⟨q1, q2⟩ := hrq rp rfl
      have e3 : wr.cell? ⟨b6, 3, none⟩ = some (.slice (some ⟨rp, 0, none⟩) p.n cp2) := by rw [cell_of_heap HX6.out]; rfl
      obtain ⟨L, hL⟩ : ∃ L : Array Value, L = #[.int .u8 99, .int .u8 0, .int .u8 0, .int .u8 0, .int .u8 0, .int .u8 0, .int .u8 0, .int .u8 0, .int .u8 0, .int .u8 0, .int .u8 0, .int .u8 0, .int .u8 0, .int .u8 0, .int .u8 0, .int .u8 0] := ⟨_, rfl⟩
      have hLs : L.size = 16 := by rw [hL]; rfl
      have HLE := Lib.hid (congrArg Value.agg hL.symm)
      have HI41 := Lib.hid (show (Try.prog.info? 41).map (·.size) = some L.size by rw [hLs]; kernel_rfl)
      have HONE := Lib.hid (show L.all (·.oneCell') = true by rw [hL]; exact l99_one)
      clear hL
      have ht : wr.there rp (i * 16) L.size := fun j hj => by
        rw [hLs] at hj
        have := HTH.out rp rfl (i * 16 + j) (by omega)
        rwa [Nat.zero_add] at this
      have HT16 := Lib.hid ht
      clear ht
      have hO : Only [rp] wr (wr.setCells rp (i * 16) L.toList) := Only.setCells _ _ _
      have n2 := (hO.block w.heap.size (lt_of_heap HX2.out) (by simp; omega)).trans HX2.out
      have n5 := (hO.block b5 (lt_of_heap HX5.out) (by simp; omega)).trans HX5.out
      have n6 := (hO.block b6 (lt_of_heap HX6.out) (by simp; omega)).trans HX6.out
      have nx := own_kept HSX.out hO (fun k hk hm => by simp at hm; have := hk1 k hk; omega)
      have nb := Only.below HB.out hO HB.out.size (by simp; omega)
      have nt : ∀ r, (some ⟨rp, 0, none⟩ : Option Addr) = some ⟨r, 0, none⟩ → (wr.setCells rp (i * 16) L.toList).there r 0 (p.n * 16) := fun r hr => World.there_setCells (HTH.out r hr) _ _ _
      have HN := Lib.hid (And.intro n2 (And.intro n5 (And.intro n6 (And.intro nx (And.intro nt nb)))))
      clear n2 n5 n6 nx nb nt hO
      go_wp2_with (first | (refine wpList_store_mid rfl 41 _ _ rfl rp (i * 16) L rfl HLE.out HT16.out HI41.out HONE.out ?_))
      go_roundg (p.n - (i + 1))
      case measure => have := HQ.out; omega
      case rel => exact ⟨i + 1, by omega, by go_num, rfl, HN.out.1, HN.out.2.1, HN.out.2.2.1, HN.out.2.2.2.1, HN.out.2.2.2.2.1, HN.out.2.2.2.2.2⟩
    · obtain rfl : i = p.n := by omega
      have e3 : wr.cell? ⟨b6, 3, none⟩ = some (.slice A2 p.n cp2) := by rw [cell_of_heap HX6.out]; rfl
      obtain ⟨c0, c1, c2, c3, c4, c5, c6⟩ := row_cells HX2.out
      obtain ⟨d0, d1, d2, d3, d4, d5, d6⟩ := row_cells HX5.out
      go_wp2_with (fail)
      refine (HS14.out _ _ _ (Own.secs (c := Cmd.mk kind lba count n bs key res keep) HSX.out) (HS.out _ HB.out)).mono ?_
      rintro e wz ⟨rfl, hbz⟩
      have HBZ := Lib.hid (HB.out.trans (hbz.mono HB.out.size))
      clear hbz
      go_wp2_with (fail)
      go_ret
      exact ⟨rfl, HBZ.out⟩
end Go.Proofs.Ytlkibkemmmppcaa.Wd
