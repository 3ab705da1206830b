/- ravelinlaw19.awake, walked; ModelNil. -/
import Derived.Test.YtjpdjhmajjbgmaaMdo
set_option linter.unusedVariables false
set_option linter.unusedSimpArgs false
namespace Go.Proofs.Ytjpdjhmajjbgmaa.Md
open Go Go.RowKit Res
open Wd (Cmd u8s balloc Rd)
/-- Sectors that lie in a block whole. -/
theorem rd_lit {w : World} {b n : Nat} {t : TypeId} {l : List Int} (hg : w.heap[b]? = some (.cells (u8s l).toArray t (0, 0))) (hl : l.length = n * 16) (hn : n ≤ 1000) : Rd w (.slice (some ⟨b, 0, none⟩) n n) n 16 (u8s l) := by
  refine ⟨by rw [u8s_len, hl], _, _, rfl, Nat.le_refl _, by unfold maxLen; omega, (fun e => by cases e), fun _ => ⟨b, 0, rfl, lt_of_heap hg, fun j u hu => ?_⟩⟩
  rw [cell_of_heap hg, List.getElem?_toArray, Nat.zero_add]
  exact hu
/-- A row of one's own as a range. -/
theorem lt_of_own {w : World} {base r m cp n : Nat} {e : TypeId} {s : Nat} {xs : List Value} (h : w.ownsRow base e s (.slice (some ⟨r, 0, none⟩) m cp) n xs) : r < w.heap.size := (h.lt r rfl).2
theorem own_range {w : World} {base : Nat} {A : Option Addr} {m cp n : Nat} {xs : List Int} (h : w.ownsRow base 24 16 (.slice A m cp) n (u8s xs)) (hn : 0 < n) : ∃ r, A = some ⟨r, 0, none⟩ ∧ base ≤ r ∧ ∀ i, i < n → w.rangeAt r (i * 16) (u8s ((xs.drop (i * 16)).take 16)) := by
  obtain ⟨r, rfl, hb, hr⟩ := Wd.own_addr h hn
  refine ⟨r, rfl, hb, fun i hi j v hv => ?_⟩
  have hj : j < 16 := by
    have := (List.getElem?_eq_some_iff.1 hv).1
    rw [u8s_len, List.length_take] at this
    omega
  rw [Wd.own_cell h (by omega)]
  unfold u8s at hv ⊢
  rw [List.getElem?_map, List.getElem?_take_of_lt hj, List.getElem?_drop] at hv
  rw [List.getElem?_map]
  exact hv
theorem wpList_load_mid_w {P : Program} {ops : Array Oper} {rest : List Oper} {op : Oper} {a : Act} {w : World} {Q : Exit → Act → World → Prop} (hw : Region.wanted op (yielded ops a.tmps) = true) (ty : TypeId) (x : Operand) (ho : op.op = .load ty x)
    (b o : Nat) (hx : a.eval x = .pointer (some ⟨b, o, none⟩)) (cs : List Value) (d : TypeDesc) (hc : w.rangeAt b o cs)
    (hu : P.underlying ty = some d) (hd : d.isRow = true) (hi : (P.info? ty).map (·.size) = some cs.length)
    (h : wpList P ops Q rest (a.put op.dst (.agg cs.toArray)) w) : wpList P ops Q (op :: rest) a w :=
  wpList_step fun _ hK => by rw [if_pos hw]; exact wp_load_mid ty x ho b o hx cs d hc hu hd hi (hK _ _ h)
/-- A reply, stored in a box of its own. -/
structure Bo (w W : World) (b : Nat) (row : Array Value) : Prop where
  box : W.heap[b]? = some (.cells row 31 (0, 0))
  bel : Below w.heap.size w W
  far : Only [b] (w.alloc (.cells (rep 0 0) 31)) W
theorem Bo.start (w : World) (st se : Int) (dv : Value) : Bo w ((w.alloc (.cells (rep 0 0) 31)).setRow w.heap.size #[.int .i64 st, .int .i64 se, dv]) w.heap.size #[.int .i64 st, .int .i64 se, dv] :=
  ⟨Wd.heap_setRow (heap_alloc_new w _) _, Only.below (balloc w _) (Only.setRow _) (by simp) (by simp), Only.setRow _⟩
section
variable {w W : World} {b : Nat} {st se : Int} {dv : Value}
theorem Bo.e0 (h : Bo w W b #[.int .i64 st, .int .i64 se, dv]) : W.cell? ⟨b, 0, none⟩ = some (.int .i64 st) := by rw [cell_of_heap h.box]; rfl
theorem Bo.e1 (h : Bo w W b #[.int .i64 st, .int .i64 se, dv]) : W.cell? ⟨b, 1, none⟩ = some (.int .i64 se) := by rw [cell_of_heap h.box]; rfl
theorem Bo.e2 (h : Bo w W b #[.int .i64 st, .int .i64 se, dv]) : W.cell? ⟨b, 2, none⟩ = some dv := by rw [cell_of_heap h.box]; rfl
theorem Bo.range {row : Array Value} {r o : Nat} {cs : List Value} (h : Bo w W b row) (hr : (w.alloc (.cells (rep 0 0) 31)).rangeAt r o cs) (hn : r ≠ b) : W.rangeAt r o cs := fun j v hv => by
  have h1 := hr j v hv
  have hlt : r < (w.alloc (.cells (rep 0 0) 31)).heap.size := World.block_lt_of_cell? _ ⟨r, o + j, none⟩ h1
  have h2 := h.far.block r hlt (by simpa using hn)
  simp only [World.cell?, h2] at h1 ⊢
  exact h1
end
def zlit : Array Value := #[Value.int .u8 0, .int .u8 0, .int .u8 0, .int .u8 0, .int .u8 0, .int .u8 0, .int .u8 0, .int .u8 0, .int .u8 0, .int .u8 0, .int .u8 0, .int .u8 0, .int .u8 0, .int .u8 0, .int .u8 0, .int .u8 0]
/-- A sector, stored in a box of its own. -/
structure So (w W : World) (b : Nat) (l : List Int) : Prop where
  box : W.heap[b]? = some (.cells (u8s l).toArray 24 (0, 0))
  bel : Below w.heap.size w W
theorem So.start (w : World) (l : List Int) : So w ((w.alloc (.cells zlit 24)).setRow w.heap.size (u8s l).toArray) w.heap.size l :=
  ⟨Wd.heap_setRow (heap_alloc_new w _) _, Only.below (balloc w _) (Only.setRow _) (by simp) (by simp)⟩
/-- The sector that begins with a seven. -/
def sev : List Int := 7 :: List.replicate 15 0
def c1 : Cmd := ⟨3, 1, 0, 1, sev, 0, 0, false⟩
def c2 : Cmd := ⟨2, 1, 1, 0, [], 0, 0, false⟩
def b0 : List Int := List.replicate (4 * 16) 0
def b1 : List Int := splice b0 16 sev
theorem aw1 : doS Dk.new 4 b0 0 c1 = (1, 0) ∧ doB Dk.new 4 b0 0 c1 = b1 ∧ gateD Dk.new ((4 : Nat) : Int) 0 c1 = Dk.new := ⟨by decide +kernel, by decide +kernel, by rfl⟩
theorem aw2 : doS Dk.new 4 b1 0 c2 = (1, 0) ∧ doN Dk.new 4 0 c2 = 1 ∧ doX Dk.new 4 b1 0 c2 = sev := ⟨by decide +kernel, by decide +kernel, by decide +kernel⟩
set_option maxRecDepth 100000 in
set_option maxHeartbeats 4000000 in
theorem awake_any (w : World) : Calls Try.prog 9 #[] w fun e w' => e = .returned (.bool true) ∧ Below w.heap.size w w' := by
  have A1 := Lib.hid aw1
  have A2 := Lib.hid aw2
  have HN := Lib.hid (fun W => new_unit 4 (by decide) (by decide) W)
  go_enter Try.func9, Try.ntmps9
  go_wp2_with (fail)
  refine (HN.out _).mono ?_
  rintro e wa ⟨g, gd, gs, rfl, hu, hg, hgd, hgs, hb⟩
  have HU := Lib.hid hu
  have HB := Lib.hid hb
  clear hu hb
  go_wp2_with (fail)
  have hb1 := balloc wa (.cells #[Value.int .u8 7, .int .u8 0, .int .u8 0, .int .u8 0, .int .u8 0, .int .u8 0, .int .u8 0, .int .u8 0, .int .u8 0, .int .u8 0, .int .u8 0, .int .u8 0, .int .u8 0, .int .u8 0, .int .u8 0, .int .u8 0] 24)
  refine (do_any g gd gs Dk.new 4 b0 0 c1 (.slice (some ⟨wa.heap.size, 0, none⟩) 1 1) _ (HU.out.below hb1) (rd_lit (l := sev) (heap_alloc_new wa _) rfl (by decide))).mono ?_
  rw [A1.out.1, A1.out.2.1, A1.out.2.2]
  rintro e w1 ⟨dv1, rfl, ho1, hu1, hf1⟩
  have HB1 := Lib.hid (Only.below (HB.out.trans (hb1.mono HB.out.size)) hf1 (by have := HB.out.size; simp; omega) (by simp; omega))
  have HU1 := Lib.hid hu1
  clear hb1 hf1 hu1 ho1 HU HB
  go_wp2_with (fail)
  refine (do_any g gd gs Dk.new 4 b1 0 c2 (.slice none 0 0) _ HU1.out (Rd.nil _ _)).mono ?_
  rw [A2.out.1, A2.out.2.1, A2.out.2.2]
  rintro e w2 ⟨dv2, rfl, ho2, hu2, hf2⟩
  obtain ⟨A, cp, rfl, hn2, _⟩ := Wd.own_form ho2
  obtain ⟨r, rfl, hr, hrr⟩ := own_range ho2 (by decide)
  have HB2 := Lib.hid (Only.below HB1.out hf2 HB1.out.size (by simp; omega))
  have hr0 : ∀ o, (w2.alloc o).rangeAt r 0 (u8s sev) := fun o j v hv => ((balloc w2 o).cell (p := ⟨r, 0 + j, none⟩) (by have := (lt_of_own ho2 : r < w2.heap.size); exact this)).trans (hrr 0 (by decide) j v hv)
  have HR0 := Lib.hid hr0
  have heg := Wd.eqGuard41
  have HE := Lib.hid (fun W => (Wd.eq_sec (xs := sev) (ys := sev) rfl rfl W).trans (by rw [decide_eq_true rfl]))
  have HRL := Lib.hid (lt_of_own ho2)
  clear ho2 hu2 hf2 HB1 HU1 hrr hr0
  have HI : Hid ((Try.prog.info? 24).map (·.size) = some (u8s sev).length) := Lib.hid info24
  go_upto_region 6 with (first
    | (refine wpList_store_row rfl 31 _ _ rfl w2.heap.size _ rfl rfl 31 _ (heap_alloc_new w2 _) (by kernel_rfl) rfl (rep_one3 _ _ _ _ _) ?_))
  have hX := Bo.start w2 1 0 (.slice (some ⟨r, 0, none⟩) 1 cp)
  have hR3 := hX.range (HR0.out (.cells (rep 0 0) 31)) (Nat.ne_of_lt HRL.out)
  have HB3 := Lib.hid (HB2.out.trans (hX.bel.mono HB2.out.size))
  change Code.wp _ _ _ _ ((w2.alloc (.cells (rep 0 0) 31)).setRow w2.heap.size #[.int .i64 1, .int .i64 0, .slice (some ⟨r, 0, none⟩) 1 cp])
  have e0 := hX.e0
  have e1 := hX.e1
  have e2 := hX.e2
  have HR3 := Lib.hid hR3
  clear hX hR3 HR0 HB2
  generalize (w2.alloc (.cells (rep 0 0) 31)).setRow w2.heap.size #[.int .i64 1, .int .i64 0, .slice (some ⟨r, 0, none⟩) 1 cp] = w3 at *
  generalize w2.heap.size = b3 at *
  have q : (Op.equalIn 10000 24 (.agg (u8s sev).toArray) (.agg #[Value.int .u8 7, Value.int .u8 0, Value.int .u8 0, Value.int .u8 0, Value.int .u8 0, Value.int .u8 0, Value.int .u8 0, Value.int .u8 0, Value.int .u8 0, Value.int .u8 0, Value.int .u8 0, Value.int .u8 0, Value.int .u8 0, Value.int .u8 0, Value.int .u8 0, Value.int .u8 0])).run Try.prog w3 = .ok true w3 := HE.out w3
  clear HE HRL
  go_wp2_with (first
    | (refine wpList_load_mid_w rfl 24 _ rfl r 0 (by rfl) _ _ HR3.out Try.underlying24 rfl HI.out ?_))
  go_ret
  exact ⟨rfl, HB3.out⟩
theorem nil_do (ini lba : Int) (c : Cmd) (dv : Value) (w : World) (hs : Wd.Secs w dv c) :
    Calls Try.prog 7 #[.int .i64 ini, .int .i64 lba, c.val dv] w fun e w' => e = .returned (.bool true) ∧ Below w.heap.size w w' := by
  obtain ⟨A, n0, cp, rfl⟩ : ∃ A n0 cp, dv = .slice A n0 cp := by
    obtain ⟨_, A, cp, h1, _⟩ := hs; exact ⟨A, _, cp, h1⟩
  have HS := Lib.hid hs
  clear hs
  have hcv : c.val (.slice A n0 cp) = .agg #[.int .i64 c.kind, .int .i64 c.lba, .int .i64 c.count, .slice A n0 cp, .int .u64 c.key, .int .i64 c.res, .bool c.keep] := rfl
  rw [hcv]
  clear hcv
  have H1 := Lib.hid (fun W => lose_nil W)
  have H2 := Lib.hid (fun W => do_nil ini c A n0 cp W)
  have H3 := Lib.hid (fun W => sector_nil lba W)
  have H4 := Lib.hid (fun W => awake_any W)
  go_enter Try.func7, Try.ntmps7
  go_wp2_with (fail)
  refine (H1.out _).mono ?_
  rintro e wa ⟨rfl, rfl⟩
  have HB0 := Lib.hid (balloc w (.cells #[.int .i64 c.kind, .int .i64 c.lba, .int .i64 c.count, .slice A n0 cp, .int .u64 c.key, .int .i64 c.res, .bool c.keep] 35))
  go_wp2_with (fail)
  refine (H2.out _).mono ?_
  rintro e w2 ⟨rfl, hb2⟩
  have HB2 := Lib.hid (HB0.out.trans (hb2.mono HB0.out.size))
  clear hb2 H1 H2 HB0
  unfold rep
  go_upto_region 4 with (first
    | (refine wpList_store_row rfl 31 _ _ rfl w2.heap.size _ rfl rfl 31 _ (heap_alloc_new w2 _) (by kernel_rfl) rfl (rep_one3 _ _ _ _ _) ?_))
  have hX := Bo.start w2 2 2 (.slice none 0 0)
  have HB3 := Lib.hid (HB2.out.trans (hX.bel.mono HB2.out.size))
  change Code.wp _ _ _ _ ((w2.alloc (.cells (rep 0 0) 31)).setRow w2.heap.size #[.int .i64 2, .int .i64 2, .slice none 0 0])
  have HX := Lib.hid hX.box
  clear hX HB2
  generalize (w2.alloc (.cells (rep 0 0) 31)).setRow w2.heap.size #[.int .i64 2, .int .i64 2, .slice none 0 0] = w3 at *
  generalize w2.heap.size = b3 at *
  go_wp2_with (fail)
  refine (H3.out _).mono ?_
  rintro e w4 ⟨rfl, hb4⟩
  have HB4 := Lib.hid (HB3.out.trans (hb4.mono HB3.out.size))
  have HX4 := Lib.hid ((hb4.block b3 (lt_of_heap HX.out)).trans HX.out)
  clear hb4 HB3 HX H3
  unfold sval
  go_upto_region 5 with (first
    | (refine wpList_store_row rfl 24 _ _ rfl w4.heap.size _ rfl rfl 24 _ (heap_alloc_new w4 _) (by kernel_rfl) rfl (u8s_all _) ?_))
  have hS := So.start w4 zsec
  have HB5 := Lib.hid (HB4.out.trans (hS.bel.mono HB4.out.size))
  have HX5 := Lib.hid ((hS.bel.block b3 (lt_of_heap HX4.out)).trans HX4.out)
  change Code.wp _ _ _ _ ((w4.alloc (.cells zlit 24)).setRow w4.heap.size (u8s zsec).toArray)
  clear hS HB4 HX4
  generalize (w4.alloc (.cells zlit 24)).setRow w4.heap.size (u8s zsec).toArray = w5 at *
  generalize w4.heap.size = b5 at *
  go_wp2_with (fail)
  refine (H4.out _).mono ?_
  rintro e w6 ⟨rfl, hb6⟩
  have HB6 := Lib.hid (HB5.out.trans (hb6.mono HB5.out.size))
  have hX6 := (hb6.block b3 (lt_of_heap HX5.out)).trans HX5.out
  have e0 : w6.cell? ⟨b3, 0, none⟩ = some (.int .i64 2) := by rw [cell_of_heap hX6]; rfl
  have e1 : w6.cell? ⟨b3, 1, none⟩ = some (.int .i64 2) := by rw [cell_of_heap hX6]; rfl
  have e2 : w6.cell? ⟨b3, 2, none⟩ = some (.slice none 0 0) := by rw [cell_of_heap hX6]; rfl
  clear hb6 hX6 HB5 HX5 H4
  go_wp2_with (fail)
  go_ret
  exact ⟨rfl, HB6.out⟩
end Go.Proofs.Ytjpdjhmajjbgmaa.Md
