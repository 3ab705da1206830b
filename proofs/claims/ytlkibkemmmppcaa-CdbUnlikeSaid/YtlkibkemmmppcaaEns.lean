/- CdbEncodes, walked. -/
import Derived.Test.YtlkibkemmmppcaaDan
import Derived.Test.YtlkibkemmmppcaaAwk
import Derived.Test.YtlkibkemmmppcaaSec
namespace Go.Proofs.Ytlkibkemmmppcaa.Wd
open Go.RowKit
set_option linter.unusedVariables false
set_option linter.unusedSimpArgs false
/-- What a world keeps of the command that came in. -/
structure Kp (w0 w : World) (B : Nat) (C : Array Value) (dv : Value) (c : Cmd) : Prop where
  box : w.heap[B]? = some (.cells C 25 (0, 0))
  secs : Secs w dv c
  below : Below w0.heap.size w0 w
theorem Kp.kept {w0 w w' : World} {B : Nat} {C : Array Value} {dv : Value} {c : Cmd} (h : Kp w0 w B C dv c) (hb : Below w.heap.size w w') : Kp w0 w' B C dv c :=
  ⟨(hb.block _ (lt_of_heap h.box)).trans h.box, h.secs.below hb, h.below.trans (hb.mono h.below.size)⟩
theorem row_two (c : Cmd) (dv : Value) (h : c.n ≤ maxLen) (A : Option Addr) (cp : Nat) (hd : dv = .slice A c.n cp) : (#[.int .i64 c.kind, .int .i64 c.lba, .int .i64 c.count, dv, .int .u64 c.key, .int .i64 c.res, .bool c.keep] : Array Value).all (·.oneCell') = true := by subst hd; exact row_one _ _ _ _ _ _ _ _ _
theorem dec_bytes (c : Cmd) (hok : c.plain.ok) (hwf : c.wf) : (prs c.plain.bytes).plain = c.plain ∧ (prs c.plain.bytes).plain.ok ∧ (prs c.plain.bytes).plain.bytes = c.plain.bytes := by
  have hw := wf_plain _ hwf
  rw [prs_bytes _ hok hw.1 hw.2, plain_plain]
  exact ⟨rfl, hok, rfl⟩
set_option maxRecDepth 100000 in
set_option maxHeartbeats 8000000 in
theorem encodes_ok (c : Cmd) (dv : Value) (w : World) (hs : Secs w dv c) (hl : c.n * 16 ≤ 140737488355328) (hbr : ∀ x ∈ c.bs, 0 ≤ x ∧ x ≤ 255) (hwf : c.wf) (hok : c.plain.ok) :
    Calls Try.prog 3 #[c.val dv] w fun e w' => e = .returned (.bool true) ∧ Below w.heap.size w w' := by
  have hk1 : Kp w (w.alloc (.cells #[.int .i64 c.kind, .int .i64 c.lba, .int .i64 c.count, dv, .int .u64 c.key, .int .i64 c.res, .bool c.keep] 25)) w.heap.size #[.int .i64 c.kind, .int .i64 c.lba, .int .i64 c.count, dv, .int .u64 c.key, .int .i64 c.res, .bool c.keep] dv c := ⟨heap_alloc_new w _, hs.below (balloc w _), balloc w _⟩
  have HK1 := Lib.hid hk1
  have HOK := Lib.hid hok
  have HWF := Lib.hid hwf
  have HRG := Lib.hid (bytes_range _ hok (plain_range _ hbr))
  have HLW := Lib.hid (dec_bytes c hok hwf)
  have HL := Lib.hid hl
  clear hk1 hs hok hwf hbr hl
  unfold Cmd.val
  go_enter Try.func3, Try.ntmps3
  go_wp2_with (refine wpList_load_row rfl 25 _ rfl w.heap.size rfl 25 _ (0, 0) _ HK1.out.box Try.underlying25 rfl (by kernel_rfl) ?_)
  generalize World.alloc _ _ = w1 at *
  have HO := Lib.hid (own_any c dv w1 HK1.out.secs HL.out)
  unfold Cmd.val at HO
  with_reducible refine (HO.out).mono ?_
  rintro e w2 ⟨dv2, rfl, ho2, hb2⟩
  have HK2 := Lib.hid (HK1.out.kept hb2)
  have HC2 := Lib.hid (enc_ok c dv2 w2 ho2.secs HL.out HOK.out)
  clear ho2 hb2 HK1
  unfold Cmd.val at HC2
  go_wp2_with (fail)
  with_reducible refine (HC2.out).mono ?_
  rintro e w3 ⟨v3, rfl, ho3, hb3⟩
  have HK3 := Lib.hid (HK2.out.kept hb3)
  have HR3 := Lib.hid (Rd.of_own ho3)
  clear ho3 hb3 HK2 HC2
  have HC3 := Lib.hid (renc_ok c dv w3 HK3.out.secs HL.out HOK.out)
  unfold Cmd.val at HC3
  go_wp2_with (refine wpList_load_row rfl 25 _ rfl w.heap.size rfl 25 _ (0, 0) _ HK3.out.box Try.underlying25 rfl (by kernel_rfl) ?_)
  with_reducible refine (HC3.out).mono ?_
  rintro e w4 ⟨v4, rfl, ho4, hb4⟩
  have HK4 := Lib.hid (HK3.out.kept hb4)
  have HR4 := Lib.hid (HR3.out.below hb4)
  have HQ4 := Lib.hid (Rd.of_own ho4)
  clear ho4 hb4 HK3 HC3 HR3
  go_wp2_with (fail)
  refine (awake_any _).mono ?_
  rintro e w5 ⟨rfl, hb5⟩
  have HK5 := Lib.hid (HK4.out.kept hb5)
  have HR5 := Lib.hid (HR4.out.below hb5)
  have HQ5 := Lib.hid (HQ4.out.below hb5)
  clear hb5 HK4 HR4 HQ4
  have hsb := same_bytes v3 v4 _ _ _ _ w5 HR5.out HQ5.out
  rw [decide_eq_true rfl] at hsb
  have HSB := Lib.hid hsb
  clear hsb
  go_wp2_with (fail)
  refine (HSB.out).mono ?_
  rintro e w6 ⟨rfl, hb6⟩
  have HK6 := Lib.hid (HK5.out.kept hb6)
  have HR6 := Lib.hid (HR5.out.below hb6)
  clear hb6 HK5 HR5 HQ5 HSB
  have HD := Lib.hid (dec_any v3 _ _ w6 HR6.out HRG.out)
  go_wp2_with (fail)
  refine (HD.out).mono ?_
  rintro e w7 hdp
  obtain ⟨_, dv7, rfl, ho7, hb7⟩ | ⟨hno, _, _⟩ := hdp
  rotate_left
  · exact absurd HLW.out.2 hno
  rw [HLW.out.1] at ho7 ⊢
  obtain ⟨A7, c7, rfl, _, hm7⟩ := own_form ho7
  have HK7 := Lib.hid (HK6.out.kept hb7)
  have HO7 := Lib.hid ho7
  clear ho7 hb7 HK6 HR6 HD
  unfold Cmd.val
  have ha7 := lt_of_heap HK7.out.box
  have HN7 : Hid (∀ Z : Array Value, ((w7.alloc (.cells Z 25)).setRow w7.heap.size #[.int .i64 c.plain.kind, .int .i64 c.plain.lba, .int .i64 c.plain.count, .slice A7 c.plain.n c7, .int .u64 c.plain.key, .int .i64 c.plain.res, .bool c.plain.keep]).heap[w7.heap.size]? = some (.cells #[.int .i64 c.plain.kind, .int .i64 c.plain.lba, .int .i64 c.plain.count, .slice A7 c.plain.n c7, .int .u64 c.plain.key, .int .i64 c.plain.res, .bool c.plain.keep] 25 (0, 0)) ∧ Below w7.heap.size w7 ((w7.alloc (.cells Z 25)).setRow w7.heap.size #[.int .i64 c.plain.kind, .int .i64 c.plain.lba, .int .i64 c.plain.count, .slice A7 c.plain.n c7, .int .u64 c.plain.key, .int .i64 c.plain.res, .bool c.plain.keep])) := Lib.hid (fun Z => ⟨heap_setRow (heap_alloc_new w7 _) _, Only.below (balloc w7 _) (Only.setRow _) (by simp) (by simp)⟩)
  go_upto_region 6 with (refine wpList_store_row rfl 25 _ _ rfl w7.heap.size _ rfl rfl 25 _ (heap_alloc_new w7 _) (by kernel_rfl) rfl (row_one _ _ _ _ _ _ _ _ _) ?_)
  have hn8 := HN7.out #[.int .i64 0, .int .i64 0, .int .i64 0, .slice none 0 0, .int .u64 0, .int .i64 0, .bool false]
  have hk8 := HK7.out.kept hn8.2
  have ho8 := own_below HO7.out hn8.2
  generalize World.setRow _ _ _ = w8 at hn8 hk8 ho8 ⊢
  have HN8 := Lib.hid hn8.1
  have HK8 := Lib.hid hk8
  have HO8 := Lib.hid ho8
  have HP : Hid (∀ W, Below w8.heap.size w8 W → Calls Try.prog 15 #[c.val dv] W fun e w' => ∃ dv', e = .returned (c.plain.val dv') ∧ Own w' W.heap.size dv' c.plain ∧ Below W.heap.size W w') := Lib.hid (fun W hW => rplain_any c dv W (HK8.out.secs.below hW) HL.out)
  unfold Cmd.val at HP
  clear hn8 hk8 ho8 HN7 HK7 HO7
  refine wp_region_held_drew (S := fun W => Below w8.heap.size w8 W) (by kernel_rfl) (Below.refl _ _).drew (fun hS => ?_)
  refine wpAnyH_take (i := 0) (v := ?_) rfl (by kernel_rfl) (by kernel_rfl) (by kernel_rfl) (fun _ _ _ h => h) (Or.inl ⟨by rfl, ?_⟩) hS ?_
  rotate_left
  · intro w' hSw; go_simp; try rfl
  try simp only [Act.put, List.getElem_toArray, List.getElem_cons_succ, List.getElem_cons_zero, List.setIfInBounds_toArray, List.set_cons_zero, List.set_cons_succ]
  refine wpAnyH_take (i := 1) (v := ?_) rfl (by kernel_rfl) (by kernel_rfl) (by kernel_rfl) (fun _ _ _ h => h) (Or.inl ⟨by rfl, ?_⟩) hS ?_
  rotate_left
  · intro w' hSw; go_simp; try rfl
  try simp only [Act.put, List.getElem_toArray, List.getElem_cons_succ, List.getElem_cons_zero, List.setIfInBounds_toArray, List.set_cons_zero, List.set_cons_succ]
  refine wpAnyH_take (i := 2) (v := ?_) rfl (by kernel_rfl) (by kernel_rfl) (by kernel_rfl) (fun _ _ _ h => h) (Or.inl ⟨by rfl, ?_⟩) hS ?_
  rotate_left
  · intro w' hSw; go_simp; try rfl
  try simp only [Act.put, List.getElem_toArray, List.getElem_cons_succ, List.getElem_cons_zero, List.setIfInBounds_toArray, List.set_cons_zero, List.set_cons_succ]
  refine wpAnyH_take (i := 3) (v := ?_) rfl (by kernel_rfl) (by kernel_rfl) (by kernel_rfl) (fun _ _ _ h => h) (Or.inl ⟨by rfl, ?_⟩) hS ?_
  rotate_left
  · intro w' hSw; go_simp; try rfl
  try simp only [Act.put, List.getElem_toArray, List.getElem_cons_succ, List.getElem_cons_zero, List.setIfInBounds_toArray, List.set_cons_zero, List.set_cons_succ]
  refine wpAnyH_take (i := 4) (v := ?_) rfl (by kernel_rfl) (by kernel_rfl) (by kernel_rfl) (fun _ _ _ h => h) (Or.inl ⟨by rfl, ?_⟩) hS ?_
  rotate_left
  · intro w' hSw; go_simp; try rfl
  try simp only [Act.put, List.getElem_toArray, List.getElem_cons_succ, List.getElem_cons_zero, List.setIfInBounds_toArray, List.set_cons_zero, List.set_cons_succ]
  refine wpAnyH_take (i := 5) (v := ?_) rfl (by kernel_rfl) (by kernel_rfl) (by kernel_rfl) (fun _ _ _ h => h) (Or.inl ⟨by rfl, ?_⟩) hS ?_
  rotate_left
  · intro w' hSw; go_simp; try rfl
  try simp only [Act.put, List.getElem_toArray, List.getElem_cons_succ, List.getElem_cons_zero, List.setIfInBounds_toArray, List.set_cons_zero, List.set_cons_succ]
  refine wpAnyH_take (i := 6) (v := .agg #[.int .i64 c.plain.kind, .int .i64 c.plain.lba, .int .i64 c.plain.count, .slice A7 c.plain.n c7, .int .u64 c.plain.key, .int .i64 c.plain.res, .bool c.plain.keep]) rfl (by kernel_rfl) (by kernel_rfl) (by kernel_rfl) (fun _ _ _ h => h) (Or.inl ⟨by rfl, fun w' hSw => ?_⟩) hS ?_
  · exact exec_load_row 25 _ rfl w7.heap.size rfl 25 _ (0, 0) _ ((hSw.block _ (lt_of_heap HN8.out)).trans HN8.out) Try.underlying25 rfl (by kernel_rfl)
  try simp only [Act.put, List.getElem_toArray, List.getElem_cons_succ, List.getElem_cons_zero, List.setIfInBounds_toArray, List.set_cons_zero, List.set_cons_succ]
  refine wpAnyH_take (i := 7) (v := .agg #[.int .i64 c.kind, .int .i64 c.lba, .int .i64 c.count, dv, .int .u64 c.key, .int .i64 c.res, .bool c.keep]) rfl (by kernel_rfl) (by kernel_rfl) (by kernel_rfl) (fun _ _ _ h => h) (Or.inl ⟨by rfl, fun w' hSw => ?_⟩) hS ?_
  · exact exec_load_row 25 _ rfl w.heap.size rfl 25 _ (0, 0) _ ((hSw.block _ (lt_of_heap HK8.out.box)).trans HK8.out.box) Try.underlying25 rfl (by kernel_rfl)
  try simp only [Act.put, List.getElem_toArray, List.getElem_cons_succ, List.getElem_cons_zero, List.setIfInBounds_toArray, List.set_cons_zero, List.set_cons_succ]
  refine wpAnyH_ready (rs := [8]) (by kernel_rfl) (by simp) ?_
  refine AllReadyH.cons rfl (fun K hK => ?_) AllReadyH.nil
  go_simp
  refine (HP.out _ hS).mono ?_
  rintro e w9 ⟨dv9, rfl, ho9, hb9⟩
  have hT : Below w8.heap.size w8 w9 := hS.trans (hb9.mono hS.size)
  have HSM := Lib.hid (same_yes c.plain (.slice A7 c.plain.n c7) dv9 w9 ((Rd.of_own HO8.out).below hT) ho9.secs)
  unfold Cmd.val at HSM
  clear ho9 hb9
  go_wp2_with (fail)
  refine hK.out _ _ hT (fun hU => ?_)
  clear hK K hU hS
  have hS := hT
  clear hT
  try simp only [Act.put, List.getElem_toArray, List.getElem_cons_succ, List.getElem_cons_zero, List.setIfInBounds_toArray, List.set_cons_zero, List.set_cons_succ]
  refine wpAnyH_ready (rs := [9]) (by kernel_rfl) (by simp) ?_
  refine AllReadyH.cons rfl (fun K hK => ?_) AllReadyH.nil
  go_simp
  refine (HSM.out).mono ?_
  rintro e w10 ⟨rfl, hb10⟩
  have hT : Below w8.heap.size w8 w10 := hS.trans (hb10.mono hS.size)
  clear hb10
  go_wp2_with (fail)
  refine hK.out _ _ hT (fun hU => ?_)
  clear hK K hU hS HSM
  have hS := hT
  clear hT
  try simp only [Act.put, List.getElem_toArray, List.getElem_cons_succ, List.getElem_cons_zero, List.setIfInBounds_toArray, List.set_cons_zero, List.set_cons_succ]
  refine wpAnyH_take (i := 10) (v := ?_) rfl (by kernel_rfl) (by kernel_rfl) (by kernel_rfl) (fun _ _ _ h => h) (Or.inl ⟨by rfl, ?_⟩) hS ?_
  rotate_left
  · intro w' hSw; go_simp; try rfl
  try simp only [Act.put, List.getElem_toArray, List.getElem_cons_succ, List.getElem_cons_zero, List.setIfInBounds_toArray, List.set_cons_zero, List.set_cons_succ]
  refine wpAnyH_take (i := 11) (v := ?_) rfl (by kernel_rfl) (by kernel_rfl) (by kernel_rfl) (fun _ _ _ h => h) (Or.inl ⟨by rfl, ?_⟩) hS ?_
  rotate_left
  · intro w' hSw; go_simp; try rfl
  try simp only [Act.put, List.getElem_toArray, List.getElem_cons_succ, List.getElem_cons_zero, List.setIfInBounds_toArray, List.set_cons_zero, List.set_cons_succ]
  refine wpAnyH_take (i := 12) (v := ?_) rfl (by kernel_rfl) (by kernel_rfl) (by kernel_rfl) (fun _ _ _ h => h) (Or.inl ⟨by rfl, ?_⟩) hS ?_
  rotate_left
  · intro w' hSw; go_simp; try rfl
  try simp only [Act.put, List.getElem_toArray, List.getElem_cons_succ, List.getElem_cons_zero, List.setIfInBounds_toArray, List.set_cons_zero, List.set_cons_succ]
  refine wpAnyH_done (by kernel_rfl) ?_ _
  go_wp2_with (fail)
  go_ret
  exact ⟨rfl, HK8.out.below.trans (hS.mono HK8.out.below.size)⟩
end Go.Proofs.Ytlkibkemmmppcaa.Wd
