/- Bytes that came in; the walk of GfTables. Printed by gen_fl3.py (ours). -/
import Derived.Test.YtpmhoocigdkhbaaFl2
import Derived.ChangeSlices
import Derived.OpenShut
import Derived.Deep.RegionHeld
namespace Go.Proofs.Ytpmhoocigdkhbaa.Fl
open Go.RowKit Go.Proofs.Ytpmhoocigdkhbaa.Wd Go.Proofs.Ytpmhoocigdkhbaa.WalkLaws
set_option linter.unusedVariables false
set_option linter.unusedSimpArgs false
def u8s (bs : List Int) : List Value := bs.map (.int .u8)
theorem wf_u8 {x : Int} (h : (Lit.int .u8 x).wf = true) : 0 ≤ x ∧ x ≤ 255 := by
  simp [Lit.wf] at h
  have e0 : IntKind.u8.min = 0 := by decide
  have e1 : IntKind.u8.max = 255 := by decide
  omega
theorem addr_plain {w : World} {a : Addr} {v : Value} (h : w.cell? a = some v) : a.spot = none ∧ a.block < w.heap.size := by
  obtain ⟨b, off, spot⟩ := a
  unfold World.cell? at h
  simp only at h
  cases hh : w.heap[b]? with
  | none => rw [hh] at h; cases h
  | some o =>
    refine ⟨?_, lt_of_heap hh⟩
    rw [hh] at h
    cases o with
    | cells c e f =>
      simp only at h
      split at h
      · cases h
      · rename_i hn
        cases spot with
        | none => rfl
        | some x => simp at hn
    | _ => cases h
open Go.WideShapes Go.ChangeShapes in
theorem open_bytes {H : Type} {enc : TypeId × Value → H} {W : World} {base : Nat} {v : Value} {d : DataW H} {p : List MemPlace} (hv : Value.okWide Try.prog W .any base 39 v) (h : DataW.Trod enc Try.prog W 0 (fun _ => true) true 39 v d p)
    (hz : ∀ n ∈ d.weights Try.prog 39, n ≤ reachBytes) :
    ∃ (n : Nat) (bs : List Int), Rd W v n 1 (u8s bs) ∧ n ≤ 140737488355328 - 4096 ∧ ∀ x ∈ bs, 0 ≤ x ∧ x ≤ 255 := by
  obtain ⟨A, n, cap, rfl⟩ := okWide_slice Try.underlying39 hv
  obtain ⟨fuel, hf⟩ := h
  have h5 : Try.prog.cellsOf 5 = 1 := by kernel_rfl
  rcases open_ints Try.underlying39 Try.underlying5 h5 hf with ⟨hc, hx⟩ | ⟨a, len, cap', zs, hc, hb, hl, hm, hlen, hx, hcell, hwf⟩
  · have e : (Value.slice A n cap).cells.toList = [.slice A n cap] := rfl
    rw [e] at hc
    simp only [List.cons.injEq, and_true, Value.slice.injEq] at hc
    obtain ⟨rfl, rfl, rfl⟩ := hc
    exact ⟨0, [], Rd.nil W 1, by decide, fun x hx => by cases hx⟩
  · have e : (Value.slice A n cap).cells.toList = [.slice A n cap] := rfl
    rw [e] at hc
    simp only [List.cons.injEq, and_true, Value.slice.injEq] at hc
    obtain ⟨rfl, rfl, rfl⟩ := hc
    rw [if_pos rfl] at hlen
    have hzl : (zs.take n).length = n := by simp; omega
    refine ⟨n, zs.take n, ⟨by unfold u8s; simp; omega, some a, cap, rfl, hl, hm, fun h => (by cases h), fun h0 => ?_⟩, ?_, fun x hx => wf_u8 (hwf x (List.mem_of_mem_take hx))⟩
    · have c0 := hcell 0 (by omega)
      rw [show a.add 0 = a from rfl] at c0
      have hpl : a.spot = none ∧ a.block < W.heap.size := addr_plain c0
      obtain ⟨b, off, spot⟩ := a
      obtain ⟨hs, hbl⟩ := hpl
      simp only at hs hbl
      subst hs
      refine ⟨b, off, rfl, hbl, fun j u hu => ?_⟩
      have hj : j < n := by have := (List.getElem?_eq_some_iff.1 hu).1; unfold u8s at this; simp at this; omega
      have := hcell j (by omega)
      rw [addr_add] at this
      rw [this]
      unfold u8s at hu
      rw [List.getElem?_map, List.getElem?_take_of_lt hj, List.getElem?_eq_getElem (by omega)] at hu
      rw [List.getD_eq_getElem?_getD, List.getElem?_eq_getElem (by omega)]
      simpa using hu
    · have hd' : d = .slice (lits .u8 (zs.take n)) (lits .u8 (zs.drop n)) := by simp only [Prod.mk.injEq] at hx; exact hx.1
      have b5 : Try.prog.bytesOf 5 = 1 := by kernel_rfl
      have hmem : ((lits (H := H) .u8 (zs.take n)).length + (lits (H := H) .u8 (zs.drop n)).length) * Try.prog.bytesOf 5 ∈ d.weights Try.prog 39 := by
        rw [hd']; simp [DataW.weights, Try.underlying39]
      have := hz _ hmem
      rw [b5] at this
      have hbig : reachBytes ≤ 140737488355328 - 4096 := by decide
      simp [lits] at this
      omega
theorem rmul_q (a b : Nat) (w : World) (ha : a < 256) (hb : b < 256) : Calls Try.prog 17 #[.int .u8 (a : Int), .int .u8 (b : Int)] w fun e w' => e = .returned (.int .u8 ((Math.mul a b : Nat) : Int)) ∧ YtpmhoocigdkhbaaW.PrintWords.Drawn0 w w' := by
  obtain ⟨k, hk⟩ := (BrPGfProducts.rmul_ev a b ha hb).rounds
  exact PGfProducts.ravelinref01_Mul.calls k _ _ _ w hk
theorem wrap_small (k : Nat) (h : k < 2 ^ 62) : IntKind.i64.wrap (k : Int) = k := by
  have : (2 : Nat) ^ 62 = 4611686018427387904 := by decide
  simp [IntKind.wrap, go_sem]
  omega
theorem nat_of (bs : List Int) (hw : ∀ x ∈ bs, 0 ≤ x ∧ x ≤ 255) (j : Nat) (hj : j < bs.length) : ∃ a : Nat, a < 256 ∧ (u8s bs)[j]? = some (.int .u8 (a : Int)) := by
  have h := hw bs[j] (List.getElem_mem hj)
  refine ⟨bs[j].toNat, by omega, ?_⟩
  unfold u8s
  rw [List.getElem?_map, List.getElem?_eq_getElem hj, Int.toNat_of_nonneg h.1]; rfl
set_option maxRecDepth 100000 in
set_option maxHeartbeats 4000000 in
theorem law_walk (v : Value) (n : Nat) (bs : List Int) (w : World) (h : Rd w v n 1 (u8s bs)) (hn : n ≤ 140737488355328 - 4096) (hw : ∀ x ∈ bs, 0 ≤ x ∧ x ≤ 255) :
    Calls Try.prog 9 #[v] w fun e w' => e = .returned (.bool true) ∧ Below w.heap.size w w' := by
  have hlen : bs.length = n := by have := h.len; unfold u8s at this; simpa using this
  obtain ⟨A, cap, rfl, hcap, hmax, hA0, hA1⟩ := h.form
  clear h
  have HA := Lib.hid hA1
  have HW := Lib.hid hw
  have HLEN := Lib.hid hlen
  have HFD := Lib.hid (Fd.new w)
  have HB := Lib.hid (balloc w (.cells F0 65))
  have HNEW := Lib.hid (new_any w)
  generalize hgw : w.heap.size = g at *
  generalize hw1 : w.alloc (.cells F0 65) = w1 at *
  clear hA1 hw hlen hA0
  go_enter Try.func9, Try.ntmps9
  go_wp2_with (fail)
  refine HNEW.out.mono ?_
  rintro e w' ⟨rfl, rfl⟩
  go_wp2_with (fail)
  refine (awake_q _).mono ?_; rintro e' w'' ⟨rfl, ⟨n1, rfl⟩⟩
  have HFD1 := Lib.hid (HFD.out.below (belowN (Below.refl _ _) n1))
  have HB1 := Lib.hid (belowN HB.out n1)
  generalize w'.drewN n1 = w2 at *
  go_wp2_with (fail)
  refine (made_any g 0 _ HFD1.out.made).mono ?_
  rintro e' w'' ⟨rfl, rfl⟩
  go_wp2_with (fail)
  obtain ⟨wi, hwi⟩ : ∃ wi : World, wi = w := ⟨_, rfl⟩
  clear HFD HB HNEW hw1
  go_loopg [4] (n) (fun q v4 wr => ∃ k : Nat, (k + 1 ≤ n ∨ k = 0) ∧ v4 = .int .i64 ((k : Int) + 1) ∧ q = n - k ∧ Fd wr g (if k = 0 then 0 else 1) ∧ Below g w wr)
  case atStart => exact ⟨0, .inr rfl, rfl, rfl, HFD1.out, HB1.out⟩
  case round =>
    obtain ⟨k, hk, rfl, hq, hF, hb⟩ := hrel
    have HK := Lib.hid hk
    have HQ := Lib.hid hq
    have HF := Lib.hid hF
    have HB := Lib.hid hb
    clear hq hF hb hk
    by_cases hlt : k + 1 < n
    · have hlt' : (k : Int) + 1 < (n : Int) := by omega
      obtain ⟨b, off, rfl, hbl, hcell⟩ := HA.out (by omega)
      obtain ⟨x, hx, hx1⟩ := nat_of bs HW.out k (by rw [HLEN.out]; omega)
      obtain ⟨y, hy, hy1⟩ := nat_of bs HW.out (k + 1) (by rw [HLEN.out]; omega)
      have hcx := Lib.hid (fun (W : World) (h : Below g w W) => (bcell h b (off + k) (by omega)).trans (hcell _ _ hx1))
      have hcy := Lib.hid (fun (W : World) (h : Below g w W) => (bcell h b (off + (k + 1)) (by omega)).trans (hcell _ _ hy1))
      clear hcell hx1 hy1
      have HM := Lib.hid (fun W m (h : Fd W g m) => mul_any g m x y W h hx hy)
      have HR := Lib.hid (fun W => rmul_q x y W hx hy)
      have hz : Math.mul x y < 256 := Math.mul_lt hx
      generalize Math.mul x y = z at *
      have HWK := Lib.hid (show IntKind.i64.wrap (k : Int) = k from wrap_small k (by omega))
      have hzz : ((z : Int) != (z : Int)) = false := by simp
      go_wp2_with (fail)
      refine wp_region_held_drew (S := fun W => Below g w W) (by kernel_rfl) HB.out.drew (fun hS => ?_)
      refine wpAnyH_take (i := 0) (v := ?_) rfl (by kernel_rfl) (by kernel_rfl) (by kernel_rfl) (fun _ _ _ h => h) (Or.inl ⟨by rfl, ?_⟩) hS ?_
      rotate_left
      · intro w' hSw; go_simp; try rfl
      try simp only [Act.put, List.getElem_toArray, List.getElem_cons_succ, List.getElem_cons_zero, List.setIfInBounds_toArray, List.set_cons_zero, List.set_cons_succ]
      refine wpAnyH_take (i := 1) (v := ?_) rfl (by kernel_rfl) (by kernel_rfl) (by kernel_rfl) (fun _ _ _ h => h) (Or.inl ⟨by rfl, ?_⟩) hS ?_
      rotate_left
      · intro w' hSw; go_simp; try rfl
      try simp only [Act.put, List.getElem_toArray, List.getElem_cons_succ, List.getElem_cons_zero, List.setIfInBounds_toArray, List.set_cons_zero, List.set_cons_succ]
      refine wpAnyH_take (i := 2) (v := ?_) rfl (by kernel_rfl) (by kernel_rfl) (by kernel_rfl) (fun _ _ _ h => h) (Or.inl ⟨by rfl, ?_⟩) hS ?_
      rotate_left
      · intro w' hSw; go_simp; try rfl
      try simp only [Act.put, List.getElem_toArray, List.getElem_cons_succ, List.getElem_cons_zero, List.setIfInBounds_toArray, List.set_cons_zero, List.set_cons_succ]
      refine wpAnyH_take (i := 3) (v := .int .i64 (k : Int)) rfl (by kernel_rfl) (by kernel_rfl) (by kernel_rfl) (fun _ _ _ h => h) (Or.inl ⟨by rfl, fun w' hSw => ?_⟩) hS ?_
      · go_simp; exact HWK.out
      try simp only [Act.put, List.getElem_toArray, List.getElem_cons_succ, List.getElem_cons_zero, List.setIfInBounds_toArray, List.set_cons_zero, List.set_cons_succ]
      refine wpAnyH_take (i := 4) (v := .pointer (some ⟨b, off + k, none⟩)) rfl (by kernel_rfl) (by kernel_rfl) (by kernel_rfl) (fun _ _ _ h => h) (Or.inl ⟨by rfl, fun w' hSw => ?_⟩) hS ?_
      · go_simp; intro hh; exact absurd hh (by omega)
      try simp only [Act.put, List.getElem_toArray, List.getElem_cons_succ, List.getElem_cons_zero, List.setIfInBounds_toArray, List.set_cons_zero, List.set_cons_succ]
      refine wpAnyH_take (i := 5) (v := .int .u8 (x : Int)) rfl (by kernel_rfl) (by kernel_rfl) (by kernel_rfl) (fun _ _ _ h => h) (Or.inl ⟨by rfl, fun w' hSw => ?_⟩) hS ?_
      · have q1 := hcx.out _ hSw; have q2 := hcy.out _ hSw; go_simp; try rfl
      try simp only [Act.put, List.getElem_toArray, List.getElem_cons_succ, List.getElem_cons_zero, List.setIfInBounds_toArray, List.set_cons_zero, List.set_cons_succ]
      refine wpAnyH_take (i := 6) (v := ?_) rfl (by kernel_rfl) (by kernel_rfl) (by kernel_rfl) (fun _ _ _ h => h) (Or.inl ⟨by rfl, ?_⟩) hS ?_
      rotate_left
      · intro w' hSw; go_simp; try rfl
      try simp only [Act.put, List.getElem_toArray, List.getElem_cons_succ, List.getElem_cons_zero, List.setIfInBounds_toArray, List.set_cons_zero, List.set_cons_succ]
      refine wpAnyH_take (i := 7) (v := ?_) rfl (by kernel_rfl) (by kernel_rfl) (by kernel_rfl) (fun _ _ _ h => h) (Or.inl ⟨by rfl, ?_⟩) hS ?_
      rotate_left
      · intro w' hSw; go_simp; try rfl
      try simp only [Act.put, List.getElem_toArray, List.getElem_cons_succ, List.getElem_cons_zero, List.setIfInBounds_toArray, List.set_cons_zero, List.set_cons_succ]
      refine wpAnyH_take (i := 8) (v := .pointer (some ⟨b, off + (k + 1), none⟩)) rfl (by kernel_rfl) (by kernel_rfl) (by kernel_rfl) (fun _ _ _ h => h) (Or.inl ⟨by rfl, fun w' hSw => ?_⟩) hS ?_
      · go_simp; intro hh; exact absurd hh (by omega)
      try simp only [Act.put, List.getElem_toArray, List.getElem_cons_succ, List.getElem_cons_zero, List.setIfInBounds_toArray, List.set_cons_zero, List.set_cons_succ]
      refine wpAnyH_take (i := 9) (v := .int .u8 (y : Int)) rfl (by kernel_rfl) (by kernel_rfl) (by kernel_rfl) (fun _ _ _ h => h) (Or.inl ⟨by rfl, fun w' hSw => ?_⟩) hS ?_
      · have q1 := hcx.out _ hSw; have q2 := hcy.out _ hSw; go_simp; try rfl
      try simp only [Act.put, List.getElem_toArray, List.getElem_cons_succ, List.getElem_cons_zero, List.setIfInBounds_toArray, List.set_cons_zero, List.set_cons_succ]
      refine wpAnyH_take (i := 11) (v := ?_) rfl (by kernel_rfl) (by kernel_rfl) (by kernel_rfl) (fun _ _ _ h => h) (Or.inl ⟨by rfl, ?_⟩) hS ?_
      rotate_left
      · intro w' hSw; go_simp; try rfl
      try simp only [Act.put, List.getElem_toArray, List.getElem_cons_succ, List.getElem_cons_zero, List.setIfInBounds_toArray, List.set_cons_zero, List.set_cons_succ]
      refine wpAnyH_take (i := 12) (v := ?_) rfl (by kernel_rfl) (by kernel_rfl) (by kernel_rfl) (fun _ _ _ h => h) (Or.inl ⟨by rfl, ?_⟩) hS ?_
      rotate_left
      · intro w' hSw; go_simp; try rfl
      try simp only [Act.put, List.getElem_toArray, List.getElem_cons_succ, List.getElem_cons_zero, List.setIfInBounds_toArray, List.set_cons_zero, List.set_cons_succ]
      refine wpAnyH_take (i := 13) (v := .int .i64 (k : Int)) rfl (by kernel_rfl) (by kernel_rfl) (by kernel_rfl) (fun _ _ _ h => h) (Or.inl ⟨by rfl, fun w' hSw => ?_⟩) hS ?_
      · go_simp; exact HWK.out
      try simp only [Act.put, List.getElem_toArray, List.getElem_cons_succ, List.getElem_cons_zero, List.setIfInBounds_toArray, List.set_cons_zero, List.set_cons_succ]
      refine wpAnyH_take (i := 14) (v := .pointer (some ⟨b, off + k, none⟩)) rfl (by kernel_rfl) (by kernel_rfl) (by kernel_rfl) (fun _ _ _ h => h) (Or.inl ⟨by rfl, fun w' hSw => ?_⟩) hS ?_
      · go_simp; intro hh; exact absurd hh (by omega)
      try simp only [Act.put, List.getElem_toArray, List.getElem_cons_succ, List.getElem_cons_zero, List.setIfInBounds_toArray, List.set_cons_zero, List.set_cons_succ]
      refine wpAnyH_take (i := 15) (v := .int .u8 (x : Int)) rfl (by kernel_rfl) (by kernel_rfl) (by kernel_rfl) (fun _ _ _ h => h) (Or.inl ⟨by rfl, fun w' hSw => ?_⟩) hS ?_
      · have q1 := hcx.out _ hSw; have q2 := hcy.out _ hSw; go_simp; try rfl
      try simp only [Act.put, List.getElem_toArray, List.getElem_cons_succ, List.getElem_cons_zero, List.setIfInBounds_toArray, List.set_cons_zero, List.set_cons_succ]
      refine wpAnyH_take (i := 16) (v := ?_) rfl (by kernel_rfl) (by kernel_rfl) (by kernel_rfl) (fun _ _ _ h => h) (Or.inl ⟨by rfl, ?_⟩) hS ?_
      rotate_left
      · intro w' hSw; go_simp; try rfl
      try simp only [Act.put, List.getElem_toArray, List.getElem_cons_succ, List.getElem_cons_zero, List.setIfInBounds_toArray, List.set_cons_zero, List.set_cons_succ]
      refine wpAnyH_take (i := 17) (v := ?_) rfl (by kernel_rfl) (by kernel_rfl) (by kernel_rfl) (fun _ _ _ h => h) (Or.inl ⟨by rfl, ?_⟩) hS ?_
      rotate_left
      · intro w' hSw; go_simp; try rfl
      try simp only [Act.put, List.getElem_toArray, List.getElem_cons_succ, List.getElem_cons_zero, List.setIfInBounds_toArray, List.set_cons_zero, List.set_cons_succ]
      refine wpAnyH_take (i := 18) (v := .pointer (some ⟨b, off + (k + 1), none⟩)) rfl (by kernel_rfl) (by kernel_rfl) (by kernel_rfl) (fun _ _ _ h => h) (Or.inl ⟨by rfl, fun w' hSw => ?_⟩) hS ?_
      · go_simp; intro hh; exact absurd hh (by omega)
      try simp only [Act.put, List.getElem_toArray, List.getElem_cons_succ, List.getElem_cons_zero, List.setIfInBounds_toArray, List.set_cons_zero, List.set_cons_succ]
      refine wpAnyH_take (i := 19) (v := .int .u8 (y : Int)) rfl (by kernel_rfl) (by kernel_rfl) (by kernel_rfl) (fun _ _ _ h => h) (Or.inl ⟨by rfl, fun w' hSw => ?_⟩) hS ?_
      · have q1 := hcx.out _ hSw; have q2 := hcy.out _ hSw; go_simp; try rfl
      try simp only [Act.put, List.getElem_toArray, List.getElem_cons_succ, List.getElem_cons_zero, List.setIfInBounds_toArray, List.set_cons_zero, List.set_cons_succ]
      refine wpAnyH_ready (rs := [10]) (by kernel_rfl) (by simp) ?_
      refine AllReadyH.cons rfl (fun K hK => ?_) AllReadyH.nil
      go_simp
      refine (HM.out _ _ (HF.out.below (belowN (Below.refl _ _) 1))).mono ?_
      rintro e wa ⟨rfl, ho, hFa⟩
      have hSa : Below g w wa := Only.below HB.out.drew ho (Nat.le_of_lt HF.out.lt) (by simp)
      have HFA := Lib.hid hFa
      clear ho hFa
      go_wp2_with (fail)
      refine hK.out _ _ hSa (fun hU => ?_)
      clear hK K hU
      try simp only [Act.put, List.getElem_toArray, List.getElem_cons_succ, List.getElem_cons_zero, List.setIfInBounds_toArray, List.set_cons_zero, List.set_cons_succ]
      refine wpAnyH_ready (rs := [20]) (by kernel_rfl) (by simp) ?_
      refine AllReadyH.cons rfl (fun K hK => ?_) AllReadyH.nil
      go_simp
      refine (HR.out _).mono ?_
      rintro e wb ⟨rfl, ⟨n3, rfl⟩⟩
      have hSb := belowN hSa n3
      have HFB := Lib.hid (HFA.out.below (belowN (Below.refl _ _) n3))
      generalize wa.drewN n3 = wb at *
      go_wp2_with (fail)
      refine hK.out _ _ hSb (fun hU => ?_)
      clear hK K hU
      try simp only [Act.put, List.getElem_toArray, List.getElem_cons_succ, List.getElem_cons_zero, List.setIfInBounds_toArray, List.set_cons_zero, List.set_cons_succ]
      refine wpAnyH_take (i := 21) (v := .bool false) rfl (by kernel_rfl) (by kernel_rfl) (by kernel_rfl) (fun _ _ _ h => h) (Or.inl ⟨by rfl, fun w' hSw => ?_⟩) hSb ?_
      · go_simp; try rfl
      try simp only [Act.put, List.getElem_toArray, List.getElem_cons_succ, List.getElem_cons_zero, List.setIfInBounds_toArray, List.set_cons_zero, List.set_cons_succ]
      refine wpAnyH_take (i := 22) (v := ?_) rfl (by kernel_rfl) (by kernel_rfl) (by kernel_rfl) (fun _ _ _ h => h) (Or.inl ⟨by rfl, ?_⟩) hSb ?_
      rotate_left
      · intro w' hSw; go_simp; try rfl
      try simp only [Act.put, List.getElem_toArray, List.getElem_cons_succ, List.getElem_cons_zero, List.setIfInBounds_toArray, List.set_cons_zero, List.set_cons_succ]
      refine wpAnyH_take (i := 23) (v := ?_) rfl (by kernel_rfl) (by kernel_rfl) (by kernel_rfl) (fun _ _ _ h => h) (Or.inl ⟨by rfl, ?_⟩) hSb ?_
      rotate_left
      · intro w' hSw; go_simp; try rfl
      try simp only [Act.put, List.getElem_toArray, List.getElem_cons_succ, List.getElem_cons_zero, List.setIfInBounds_toArray, List.set_cons_zero, List.set_cons_succ]
      refine wpAnyH_ready (rs := [24]) (by kernel_rfl) (by simp) ?_
      refine AllReadyH.cons rfl (fun K hK => ?_) AllReadyH.nil
      go_simp
      refine (made_any g 1 _ HFB.out.made).mono ?_
      rintro e wc ⟨rfl, rfl⟩
      go_wp2_with (fail)
      refine hK.out _ _ hSb (fun hU => ?_)
      clear hK K hU
      try simp only [Act.put, List.getElem_toArray, List.getElem_cons_succ, List.getElem_cons_zero, List.setIfInBounds_toArray, List.set_cons_zero, List.set_cons_succ]
      refine wpAnyH_take (i := 25) (v := .bool false) rfl (by kernel_rfl) (by kernel_rfl) (by kernel_rfl) (fun _ _ _ h => h) (Or.inl ⟨by rfl, fun w' hSw => ?_⟩) hSb ?_
      · go_simp; try rfl
      try simp only [Act.put, List.getElem_toArray, List.getElem_cons_succ, List.getElem_cons_zero, List.setIfInBounds_toArray, List.set_cons_zero, List.set_cons_succ]
      refine wpAnyH_take (i := 26) (v := ?_) rfl (by kernel_rfl) (by kernel_rfl) (by kernel_rfl) (fun _ _ _ h => h) (Or.inl ⟨by rfl, ?_⟩) hSb ?_
      rotate_left
      · intro w' hSw; go_simp; try rfl
      try simp only [Act.put, List.getElem_toArray, List.getElem_cons_succ, List.getElem_cons_zero, List.setIfInBounds_toArray, List.set_cons_zero, List.set_cons_succ]
      refine wpAnyH_done (by kernel_rfl) ?_ _
      go_wp2_with (fail)
      go_roundg (n - (k + 1))
      exact ⟨k + 1, .inl (by omega), by simp, rfl, by simpa using HFB.out, hSb⟩
      have := HQ.out; omega
    · have hge : ¬ ((k : Int) + 1 < (n : Int)) := by omega
      have HNEW := Lib.hid (new_any wr)
      have HFZ := Lib.hid (Fd.new wr)
      have HFR := Lib.hid (HF.out.below (balloc wr (.cells F0 65)))
      have HBZ := Lib.hid (HB.out.alloc (Nat.le_of_lt HF.out.lt) (.cells F0 65))
      generalize hwz : wr.alloc (.cells F0 65) = wz at *
      clear hwz
      generalize hm : (if k = 0 then (0 : Int) else 1) = m at *
      have hlast : (decide ((n : Int) < 2) == (m == 0)) = true := by
        have := HK.out
        by_cases h0 : k = 0
        · subst h0; rw [← hm, decide_eq_true (by omega)]; rfl
        · rw [← hm, if_neg h0, decide_eq_false (by omega)]; rfl
      go_wp2_with (fail)
      refine HNEW.out.mono ?_
      rintro e wz2 ⟨rfl, rfl⟩
      go_wp2_with (fail)
      refine (made_any _ 0 _ HFZ.out.made).mono ?_
      rintro e' w'' ⟨rfl, rfl⟩
      go_wp2_with (fail)
      refine (made_any g m _ HFR.out.made).mono ?_
      rintro e' w'' ⟨rfl, rfl⟩
      go_wp2_with (fail)
      refine (mul_nil 3 3 _).mono ?_
      rintro e' w'' ⟨rfl, rfl⟩
      go_wp2_with (fail)
      refine (made_nil _).mono ?_
      rintro e' w'' ⟨rfl, rfl⟩
      go_wp2_with (fail)
      go_ret
      exact ⟨rfl, HBZ.out⟩
end Go.Proofs.Ytpmhoocigdkhbaa.Fl
