/- The walk of DlmTurns: the law's body, and that it answers true. -/
import Derived.Test.YtgegkebbbpapiaaTuMath
import Derived.Deep.DeepCutAuto
import Derived.Deep.LoopGhost
import Derived.BigQuiet
namespace Go.Proofs.Ytgegkebbbpapiaa.Dlm
open Go.RowKit
set_option linter.unusedVariables false
theorem bTi {a b : Int} (h : a = b) : (a == b) = true := beq_iff_eq.2 h
theorem bFi {a b : Int} (h : ¬ a = b) : (a == b) = false := beq_eq_false_iff_ne.2 h
theorem ints_at2 {w : World} {base r n cap : Nat} {L : List Nat} (h : w.ownsRow base 3 1 (.slice (some ⟨r, 0, none⟩) n cap) L.length (ints L)) {k x : Nat} (hk : L[k]? = some x) : w.cell? ⟨r, k, none⟩ = some (.int .i64 (x : Int)) := by
  have hl : k < L.length := (List.getElem?_eq_some_iff.1 hk).1
  have hn : n = L.length := by
    rcases h.2 with ⟨hv, h0⟩ | ⟨g, c, cur, hv, _⟩
    · cases hv
    · injection hv
  subst hn
  rw [h.cellAt k (by omega), ints, List.getElem?_map, hk]
  rfl
theorem conf_no2 {xk xo xl xh yk yo yl yh : Int} {xa ya : Bool} (h : conf (Op5.tk ⟨yk, yo, yl, yh, ya⟩) (Op5.tk ⟨xk, xo, xl, xh, xa⟩) = false) (h1 : xl ≤ yh) (h2 : yl ≤ xh) (h3 : xa = true ∨ ya = true) : False := by
  rcases h3 with rfl | rfl <;> simp [conf, Op5.tk, h1, h2] at h
/-- A row of ints that is a block of its own. -/
def intsV (l : List Int) : Array Value := (l.map (Value.int .i64)).toArray
def zerosI (n : Nat) : List Int := List.replicate n 0
def BlI (w : World) (b : Nat) (l : List Int) : Prop := w.heap[b]? = some (.cells (intsV l) 3 (0, 0))
theorem zerosI_length (n : Nat) : (zerosI n).length = n := by simp [zerosI]
theorem BlI.cell {w : World} {b : Nat} {l : List Int} (h : BlI w b l) {i : Nat} (hi : i < l.length) : w.cell? ⟨b, i, none⟩ = some (.int .i64 (sn l i)) := by
  rw [cell_of_heap h, intsV, List.getElem?_toArray, List.getElem?_map, sn_at hi]
  rfl
theorem BlI.frozen {w : World} {b : Nat} {l : List Int} (h : BlI w b l) (i : Nat) : w.frozen? ⟨b, i, none⟩ = false := frozen_of_heap h i
theorem BlI.lt {w : World} {b : Nat} {l : List Int} (h : BlI w b l) : b < w.heap.size := lt_of_heap h
theorem BlI.kept {w w' : World} {b : Nat} {l : List Int} {S : List Nat} (h : BlI w b l) (ho : Only S w w') (hb : b ∉ S) : BlI w' b l := (ho.block b h.lt hb).trans h
theorem BlI.below {w w' : World} {b : Nat} {l : List Int} {B : Nat} (h : BlI w b l) (ho : Below B w w') (hb : b < B) : BlI w' b l := (ho.block b hb).trans h
theorem BlI.set {w : World} {b : Nat} {l : List Int} (h : BlI w b l) (i : Nat) (x : Int) : BlI (w.setCell ⟨b, i, none⟩ (.int .i64 x)) b (l.set i x) := by
  have := heap_set h i (.int .i64 x)
  unfold BlI
  rw [this]
  simp [intsV, List.map_set]
theorem BlI.ne_tab {w : World} {b g : Nat} {l : List Int} {v : Value} {ts : List Tk} (h : BlI w b l) (hT : Tab w g v ts) : b ≠ g ∧ v.ownBlock ≠ some b := by
  constructor
  · rintro rfl
    have h1 := h.symm.trans hT.1
    injection h1 with h1
    injection h1 with _ ht
    exact absurd ht (by decide)
  · exact own_blk hT.2 h (by decide)
theorem made_ints (n : Nat) : madeCells #[.int .i64 0] n = intsV (zerosI n) := by
  apply Array.ext
  · simp [madeCells, intsV, zerosI]
  · intro i h1 h2
    simp [madeCells, intsV, zerosI, Nat.mod_one]
theorem run_mkI (n : Nat) (hn : n ≤ 65536) (W : World) : (Instr.makeSlice 35 (.int .i64 (n : Int)) (.int .i64 (n : Int))).run Try.prog W = .ok (.slice (some ⟨W.heap.size, 0, none⟩) n n) (W.alloc (.cells (intsV (zerosI n)) 3)) := by
  obtain ⟨i0, hi0, hz0, hz1, hz2⟩ := info_parts info3
  have h := run_make (P := Try.prog) (w := W) 35 3 i0 (.int .i64 0) Try.underlying35 hi0 hz0 .i64 .i64 (n : Int) (n : Int) (by omega) (by omega) (by rw [hz2]; omega) (by omega)
  rw [h, hz1]
  simp only [Int.toNat_natCast, Nat.mul_one]
  rw [show (Value.int .i64 0).cells = #[.int .i64 0] from rfl, made_ints]
theorem seen_last {G : List Op5} {s0 s : List Int} {m : Nat} (h0 : Seen G G.length s0) (h : Seeing G G.length m s0 s) : Seen G G.length s := by
  intro k hk
  rcases h.1 k hk with c | ⟨_, _, c⟩
  · rw [c]; exact h0 k hk
  · rw [gr_pre_lt hk hk] at c; cases c
theorem belowN {n : Nat} {w w' : World} (h : Below n w w') (k : Nat) : Below n w (w'.drewN k) := ⟨h.os, h.tape, h.output, h.size, h.block⟩
theorem two_old (w : World) (o1 o2 : Obj) : ((w.alloc o1).alloc o2).drew.heap[w.heap.size]? = some o1 :=
  (Below.heap_alloc (w.alloc o1) o2 _ (by simp)).trans (heap_alloc_new w o1)
theorem two_new (w : World) (o1 o2 : Obj) : ((w.alloc o1).alloc o2).drew.heap[w.heap.size + 1]? = some o2 := by
  have e : w.heap.size + 1 = (w.alloc o1).heap.size := by simp
  rw [e]
  exact heap_alloc_new _ _
theorem two_below (w : World) (o1 o2 : Obj) : Below w.heap.size w ((w.alloc o1).alloc o2).drew :=
  (((Below.refl _ _).alloc (Nat.le_refl _) _).alloc (by simp) _).drew
/-- What the law keeps from round to round. -/
structure Tu (w0 wr : World) (g gv b1 : Nat) (vt : Value) (Ag : Option Addr) (cg : Nat) (G : List Op5) (i : Nat) (s : List Int) : Prop where
  tab : Tab wr g vt (TG G (pre G.length i))
  given : Given wr g (.slice Ag G.length cg) G
  seen : BlI wr b1 s
  sl : s.length = G.length
  b1g : g ≤ b1
  inv : Seen G i s
  below : Below gv w0 wr
set_option maxRecDepth 100000 in
set_option maxHeartbeats 8000000 in
theorem turns_walk (A : Option Addr) (cap : Nat) (os : List Op5) (w : World) (hin : InOps w A os) (hlc : os.length ≤ cap) (hcm : cap ≤ maxLen) :
    Calls Try.prog 5 #[.slice A os.length cap] w fun e w' => e = .returned (.bool true) ∧ Below w.heap.size w w' := by
  go_enter Try.func5, Try.ntmps5
  go_wp2_with (fail)
  refine (awake_any _).mono ?_
  rintro e w0 ⟨rfl, hb0⟩
  have HB0 := Lib.hid hb0
  have HIN0 := Lib.hid (hin.below hb0)
  clear hin hb0
  go_wp2_with (fail)
  refine (asked_any A cap os _ HIN0.out hlc hcm).mono ?_
  rintro e w1 ⟨vg, vt, rfl, hT, hG, hb1⟩
  have HB1 := Lib.hid (HB0.out.trans (hb1.mono HB0.out.size))
  have hl60 : (asks os 60).length ≤ 60 := asks_le os 60
  obtain ⟨Ag, cg, rfl, hcg⟩ := own_form hG
  have HGG := Lib.hid hG
  rw [← TG_start, ← pre_zero] at hT
  have HT := Lib.hid hT
  clear hT hb1 hG hlc hcm
  generalize asks os 60 = G at *
  have hgw : w.heap.size ≤ w0.heap.size := HB0.out.size
  generalize w0.heap.size = g at *
  have hmk := run_mkI G.length (by omega)
  go_wp2_with (fail)
  have hw3 : Below w.heap.size w (w1.alloc (.cells (intsV (zerosI G.length)) 3)) := HB1.out.alloc HB1.out.size _
  have hw4 : Below w1.heap.size w1 (w1.alloc (.cells (intsV (zerosI G.length)) 3)) := (Below.refl _ _).alloc (Nat.le_refl _) _
  have hb1 : BlI (w1.alloc (.cells (intsV (zerosI G.length)) 3)) w1.heap.size (zerosI G.length) := heap_alloc_new w1 _
  have hgw1 : g < w1.heap.size := HT.out.lt
  have hTu : Tu w (w1.alloc (.cells (intsV (zerosI G.length)) 3)) g w.heap.size w1.heap.size vt Ag cg G 0 (zerosI G.length) :=
    ⟨HT.out.below hw4, own_kept HGG.out (Only.of_below hw4 []) (by simp), hb1, zerosI_length _, by omega, seen_start, hw3⟩
  have HTU := Lib.hid hTu
  clear hw3 hw4 hb1 hTu
  generalize w1.alloc (.cells (intsV (zerosI G.length)) 3) = w3 at *
  generalize w1.heap.size = b1 at *
  go_loopg [6] (G.length + 1) (fun q v6 wr => ∃ i s, i ≤ G.length ∧ v6 = .int .i64 (i : Nat) ∧ q = G.length + 1 - i ∧ Tu w wr g w.heap.size b1 vt Ag cg G i s)
  case atStart => exact ⟨0, _, by omega, rfl, rfl, HTU.out⟩
  case round =>
    clear HTU
    obtain ⟨i, s, hi, rfl, hq, htu⟩ := hrel
    have HQ := Lib.hid hq
    have TU := Lib.hid htu
    obtain ⟨wo, rfl⟩ : ∃ wo : World, wo = wr := ⟨_, rfl⟩
    clear hq htu
    have G0 := Granted_ok g vt wo (TG G (pre G.length i)) TU.out.tab (by rw [TG_length (pre_length _ _)]; omega)
    rw [TG_length (pre_length _ _)] at G0
    have GC := Lib.hid G0
    clear G0
    go_wp2_with (fail)
    refine GC.out.mono ?_
    rintro e w4 ⟨u, rfl, hu, hb4⟩
    have hu : w4.ownsRow wo.heap.size 3 1 u (GL G i).length (ints (GL G i)) := hu
    have hLn : (GL G i).length ≤ G.length := those_le _ _ _
    obtain ⟨Au, cu, rfl, hcu⟩ := own_form hu
    have HU := Lib.hid hu
    have HB4 := Lib.hid hb4
    have hs4 := hb4.size
    clear hu hb4 GC
    have HLA := Lib.hid (fun (m x : Nat) (h : (GL G i)[m]? = some x) => GL_at h)
    have HLF := Lib.hid (fun (h : i < G.length) => GL_first h)
    have HLE := Lib.hid (fun (h : i = G.length) => show GL G i = [] by rw [h]; exact GL_end)
    have hb1o : b1 < wo.heap.size := TU.out.seen.lt
    have S4 := Lib.hid (TU.out.seen.below HB4.out TU.out.seen.lt)
    have SS := Lib.hid (fun (m x : Nat) (s' : List Int) (h : Seeing G i m s s') (hi : i < G.length) (hx : (GL G i)[m]? = some x) (hz : sn s' x ≠ 0) => seeing_skip h hi hx hz)
    have ST := Lib.hid (fun (m x : Nat) (s' : List Int) (h : Seeing G i m s s') (hl : s'.length = G.length) (hi : i < G.length) (hx : (GL G i)[m]? = some x) (hz : sn s' x = 0) => seeing_set h hl hi hx hz)
    have SE := Lib.hid (fun (s' : List Int) (hi : i < G.length) (h : Seeing G i (GL G i).length s s') => seen_succ TU.out.inv hi h)
    generalize GL G i = L at *
    go_wp2_with (fail)
    go_loopg [8] (L.length) (fun q v8 wq => ∃ k : Nat, ∃ s', k ≤ L.length ∧ v8 = .int .i64 k ∧ q = L.length - k ∧ BlI wq b1 s' ∧ s'.length = G.length ∧ Seeing G i k s s' ∧ Only [b1] w4 wq)
    case atStart => exact ⟨0, s, by omega, rfl, rfl, S4.out, TU.out.sl, seeing_start i s, Only.refl _ _⟩
    case round =>
      as_aux_lemma =>
        obtain ⟨k, s', hk, rfl, hq2, hbl, hsl, hse, hon⟩ := hrel
        have HQ2 := Lib.hid hq2
        have HBL := Lib.hid hbl
        have HSE := Lib.hid hse
        have HON := Lib.hid hon
        have U' : wr.ownsRow wo.heap.size 3 1 (.slice Au L.length cu) L.length (ints L) := own_kept HU.out hon (fun y hy hm => by simp at hm; subst hm; have := (HU.out.lt _ hy).1; omega)
        have HU' := Lib.hid U'
        clear hq2 hbl hse hon U'
        by_cases hlt : k < L.length
        · obtain ⟨x, hx⟩ : ∃ x, L[k]? = some x := ⟨_, List.getElem?_eq_getElem hlt⟩
          obtain ⟨hxn, hxg⟩ := HLA.out k x hx
          have hil : i < G.length := by
            rcases Nat.lt_or_eq_of_le hi with h | h
            · exact h
            · have := HLE.out h; rw [this] at hlt; simp at hlt
          obtain ⟨ru, rfl⟩ : ∃ ru, Au = some ⟨ru, 0, none⟩ := by
            rcases HU.out.2 with ⟨_, h0⟩ | ⟨r, c, cur, hv, _⟩
            · omega
            · injection hv with hA; exact ⟨r, hA⟩
          have hcx := ints_at2 HU'.out hx
          have hsx := HBL.out.cell (i := x) (by omega)
          have hsf := HBL.out.frozen x
          have HX := Lib.hid hx
          clear hx hxg
          by_cases hz : sn s' x = 0
          · have hzb := bTi hz
            have HZ := Lib.hid hz
            clear hz
            generalize sn s' x = sx at hsx hzb
            go_wp2_with (fail)
            go_roundg (L.length - (k + 1))
            case measure => have := HQ2.out; omega
            case rel =>
              refine ⟨k + 1, _, by omega, by go_num, rfl, HBL.out.set x ((i : Int) + 1), by simp [hsl], ?_, HON.out.trans (Only.set (p := ⟨b1, x, none⟩) _) (fun y hy => .inl hy)⟩
              exact ST.out k x s' HSE.out hsl hil HX.out HZ.out
          · have hzb := bFi hz
            have HZ := Lib.hid hz
            clear hz
            generalize sn s' x = sx at hsx hzb
            go_wp2_with (fail)
            go_roundg (L.length - (k + 1))
            case measure => have := HQ2.out; omega
            case rel => exact ⟨k + 1, s', by omega, by go_num, rfl, HBL.out, hsl, SS.out k x s' HSE.out hil HX.out HZ.out, HON.out⟩
        · obtain rfl : k = L.length := by omega
          have T4 := TU.out.tab.below HB4.out
          have V4 : Given w4 g (.slice Ag G.length cg) G := own_kept TU.out.given (Only.of_below HB4.out []) (by simp)
          have hn4 := (S4.out.ne_tab T4)
          have T5 := T4.kept HON.out (by simpa using fun e => hn4.1 e.symm) (fun y hy hm => by simp at hm; subst hm; exact hn4.2 hy)
          have V5 : Given wr g (.slice Ag G.length cg) G := own_kept V4 HON.out (fun y hy hm => by simp at hm; subst hm; exact own_blk V4 S4.out (by decide) hy)
          have hb1g := TU.out.b1g
          have hgg : w.heap.size ≤ g := hgw
          have W5 := Only.below (TU.out.below.trans (HB4.out.mono TU.out.below.size)) HON.out (by have := TU.out.below.size; omega) (fun y hy => by simp at hy; omega)
          have HT5 := Lib.hid T5
          have HV5 := Lib.hid V5
          have HW5 := Lib.hid W5
          clear T4 V4 hn4 T5 V5 W5 S4 HON HU HB4
          by_cases hil : i < G.length
          · have hx := HLF.out hil
            have hpos : 0 < L.length := (List.getElem?_eq_some_iff.1 hx).1
            obtain ⟨ru, rfl⟩ : ∃ ru, Au = some ⟨ru, 0, none⟩ := by
              rcases HU'.out.2 with ⟨_, h0⟩ | ⟨r, c, cur, hv, _⟩
              · omega
              · injection hv with hA; exact ⟨r, hA⟩
            have hcx := ints_at2 HU'.out hx
            have hl0 : ((L.length : Int) == 0) = false := bFi (by omega)
            have F0 := Free_ok g vt i wr _ HT5.out (by rw [TG_length (pre_length _ _)]; exact hil) (by rw [TG_length (pre_length _ _)]; omega) (fun h => by have := (st_3 (pre_length _ _) hil).1 h; rw [gf_pre hil] at this; simp at this)
            rw [TG_gone (pre_length _ _) hil, pre_set] at F0
            have FC := Lib.hid F0
            clear F0 hx
            go_wp2_with (fail)
            refine FC.out.mono ?_
            rintro e w6 ⟨rfl, hT6, hO6⟩
            have hnt := (HBL.out.ne_tab HT5.out).2
            have N6 := HBL.out.kept hO6 (fun hm => hnt (by rw [Option.mem_toList] at hm; exact hm))
            have V6 : Given w6 g (.slice Ag G.length cg) G := own_kept HV5.out hO6 (fun y hy hm => by
              rw [Option.mem_toList] at hm
              exact own_ne HV5.out HT5.out.2 (by decide) y hy hm)
            have W6 := Only.below HW5.out hO6 HW5.out.size (fun y hy => by
              rw [Option.mem_toList] at hy
              have := (HT5.out.2.lt y hy).1; omega)
            have TU6 := Lib.hid (show Tu w w6 g w.heap.size b1 vt Ag cg G (i + 1) s' from ⟨hT6, V6, N6, hsl, hb1g, SE.out s' hil HSE.out, W6⟩)
            clear hT6 hO6 hnt N6 V6 W6
            go_wp2_with (fail)
            go_roundg (G.length + 1 - (i + 1))
            case measure => have := HQ.out; omega
            case rel => exact ⟨i + 1, s', by omega, by go_num, rfl, TU6.out⟩
          · obtain rfl : i = G.length := by omega
            have hL0 : L = [] := HLE.out rfl
            subst hL0
            have SL := Lib.hid (seen_last TU.out.inv HSE.out)
            have TA := Lib.hid HT5.out
            have hbw : b1 < wr.heap.size := HBL.out.lt
            obtain ⟨wi, rfl⟩ : ∃ wi : World, wi = wr := ⟨_, rfl⟩
            clear HSE SE ST SS HLA HLF HLE TU HU' HT5
            go_wp2_with (fail)
            go_loopg [9] (G.length) (fun q v9 wq => ∃ a : Nat, a ≤ G.length ∧ v9 = .int .i64 a ∧ q = G.length - a ∧ Below wi.heap.size wi wq)
            case atStart => exact ⟨0, by omega, rfl, rfl, Below.refl _ _⟩
            case round =>
              as_aux_lemma =>
                obtain ⟨a, ha, rfl, hq3, hbq⟩ := hrel
                have HQ3 := Lib.hid hq3
                have HBQ := Lib.hid hbq
                clear hq3 hbq
                by_cases hlt3 : a < G.length
                · go_wp2_with (fail)
                  go_loopg [10] (a) (fun q v10 wq => ∃ b : Nat, b ≤ a ∧ v10 = .int .i64 b ∧ q = a - b ∧ Below wi.heap.size wi wq)
                  case atStart => exact ⟨0, by omega, rfl, rfl, HBQ.out⟩
                  case round =>
                    as_aux_lemma =>
                      obtain ⟨b, hb, rfl, hq4, hbq4⟩ := hrel
                      have HQ4 := Lib.hid hq4
                      have HB4q := Lib.hid hbq4
                      have hsa : wr.cell? ⟨b1, a, none⟩ = some (.int .i64 (sn s' a)) := (bcell hbq4 b1 a hbw).trans (HBL.out.cell (by omega))
                      clear hq4 hbq4
                      by_cases hlb : b < a
                      · obtain ⟨r, rfl⟩ : ∃ r, Ag = some ⟨r, 0, none⟩ := by
                          rcases HGG.out.2 with ⟨_, h0⟩ | ⟨r, c, cur, hv, _⟩
                          · omega
                          · injection hv with hA; exact ⟨r, hA⟩
                        have hri : r < wi.heap.size := (HV5.out.lt r rfl).2
                        obtain ⟨x0, x1, x2, x3, x4⟩ := Given.cells HV5.out (at_Go (G := G) (i := a) hlt3)
                        obtain ⟨y0, y1, y2, y3, y4⟩ := Given.cells HV5.out (at_Go (G := G) (i := b) (by omega))
                        rw [← bcell HB4q.out r _ hri] at x0 x1 x2 x3 x4 y0 y1 y2 y3 y4
                        have hsb : wr.cell? ⟨b1, b, none⟩ = some (.int .i64 (sn s' b)) := (bcell HB4q.out b1 b hbw).trans (HBL.out.cell (by omega))
                        have hcf : conf (Go G b).tk (Go G a).tk = true → sn s' b < sn s' a := fun h => seen_turn SL.out hlt3 hlb h
                        have HCF := Lib.hid hcf
                        have HSA := Lib.hid hsa
                        have HSB := Lib.hid hsb
                        clear hcf hsa hsb
                        have hbw' : b1 < wr.heap.size := Nat.lt_of_lt_of_le hbw HB4q.out.size
                        have hrw : r < wr.heap.size := Nat.lt_of_lt_of_le hri HB4q.out.size
                        generalize sn s' a = sa at *
                        generalize sn s' b = sb at *
                        generalize Go G a = X at *
                        generalize Go G b = Y at *
                        obtain ⟨xk, xo, xl, xh, xa⟩ := X
                        obtain ⟨yk, yo, yl, yh, ya⟩ := Y
                        simp only at x0 x1 x2 x3 x4 y0 y1 y2 y3 y4
                        go_upto_region 25 with (fail)
                        go_cut [11, 12] (fun v11 v12 wx => ∃ bx bz, v11 = .pointer (some ⟨bx, 0, none⟩) ∧ v12 = .pointer (some ⟨bz, 0, none⟩) ∧ wx.heap[bx]? = some (.cells #[.int .i64 xk, .int .i64 xo, .int .i64 xl, .int .i64 xh, .bool xa] 28 (0, 0)) ∧ wx.heap[bz]? = some (.cells #[.int .i64 yk, .int .i64 yo, .int .i64 yl, .int .i64 yh, .bool ya] 28 (0, 0)) ∧ Below wr.heap.size wr wx)
                        case first =>
                          as_aux_lemma =>
                            go_region
                            all_goals
                              go_wp2_with (fail)
                              go_meet
                              first
                                | exact ⟨_, _, rfl, rfl, two_old _ _ _, two_new _ _ _, two_below _ _ _⟩
                                | exact ⟨_, _, rfl, rfl, two_new _ _ _, two_old _ _ _, two_below _ _ _⟩
                        case rest =>
                          as_aux_lemma =>
                            obtain ⟨bx, bz, rfl, rfl, hx, hz, hbx⟩ := hcut
                            have e2 : wc.cell? ⟨bx, 2, none⟩ = some (.int .i64 xl) := by rw [cell_of_heap hx]; rfl
                            have e3 : wc.cell? ⟨bx, 3, none⟩ = some (.int .i64 xh) := by rw [cell_of_heap hx]; rfl
                            have e4 : wc.cell? ⟨bx, 4, none⟩ = some (.bool xa) := by rw [cell_of_heap hx]; rfl
                            have f2 : wc.cell? ⟨bz, 2, none⟩ = some (.int .i64 yl) := by rw [cell_of_heap hz]; rfl
                            have f3 : wc.cell? ⟨bz, 3, none⟩ = some (.int .i64 yh) := by rw [cell_of_heap hz]; rfl
                            have f4 : wc.cell? ⟨bz, 4, none⟩ = some (.bool ya) := by rw [cell_of_heap hz]; rfl
                            have sa1 := (bcell hbx b1 a hbw').trans HSA.out
                            have sb1 := (bcell hbx b1 b hbw').trans HSB.out
                            have HBE := Lib.hid (HB4q.out.trans (hbx.mono HB4q.out.size))
                            clear hx hz hbx x0 x1 x2 x3 x4 y0 y1 y2 y3 y4
                            go_upto_region 26 with (fail)
                            by_cases h1 : xl ≤ yh
                            · by_cases h2 : yl ≤ xh
                              · cases xa with
                                | true =>
                                  have hlt : sb < sa := HCF.out (by simp [conf, Op5.tk, h1, h2])
                                  have hle : decide (sa ≤ sb) = false := decide_eq_false (by omega)
                                  go_quiet (fail)
                                  go_wp2_with (fail)
                                  go_roundg (a - (b + 1))
                                  case measure => have := HQ4.out; omega
                                  case rel => exact ⟨b + 1, by omega, by go_num, rfl, belowN HBE.out _⟩
                                | false =>
                                  cases ya with
                                  | true =>
                                    have hlt : sb < sa := HCF.out (by simp [conf, Op5.tk, h1, h2])
                                    have hle : decide (sa ≤ sb) = false := decide_eq_false (by omega)
                                    go_quiet (fail)
                                    go_wp2_with (fail)
                                    go_roundg (a - (b + 1))
                                    case measure => have := HQ4.out; omega
                                    case rel => exact ⟨b + 1, by omega, by go_num, rfl, belowN HBE.out _⟩
                                  | false =>
                                    go_quiet (fail)
                                    go_wp2_with (fail)
                                    go_roundg (a - (b + 1))
                                    case measure => have := HQ4.out; omega
                                    case rel => exact ⟨b + 1, by omega, by go_num, rfl, belowN HBE.out _⟩
                              · have h2b : decide (yl ≤ xh) = false := decide_eq_false h2
                                clear h2
                                go_quiet (fail)
                                go_wp2_with (fail)
                                go_roundg (a - (b + 1))
                                case measure => have := HQ4.out; omega
                                case rel => exact ⟨b + 1, by omega, by go_num, rfl, belowN HBE.out _⟩
                            · have h1b : decide (xl ≤ yh) = false := decide_eq_false h1
                              clear h1
                              go_quiet (fail)
                              go_wp2_with (fail)
                              go_roundg (a - (b + 1))
                              case measure => have := HQ4.out; omega
                              case rel => exact ⟨b + 1, by omega, by go_num, rfl, belowN HBE.out _⟩
                      · obtain rfl : b = a := by omega
                        have hnz : (sn s' b == 0) = false := bFi (seen_nz SL.out hlt3)
                        go_wp2_with (fail)
                        go_roundg (G.length - (b + 1))
                        case measure => have := HQ3.out; omega
                        case rel => exact ⟨b + 1, by omega, by go_num, rfl, HB4q.out⟩
                · have T9 := TA.out.below HBQ.out
                  have G9 := Granted_ok g vt wr _ T9 (by rw [TG_length (pre_length _ _)]; omega)
                  rw [TG_length (pre_length _ _), show those (TG G (pre G.length G.length)) 2 G.length = [] from GL_end] at G9
                  have GC9 := Lib.hid G9
                  have HT9 := Lib.hid T9
                  clear T9 G9
                  go_wp2_with (fail)
                  refine GC9.out.mono ?_
                  rintro e w6 ⟨u6, rfl, hu6, hb6⟩
                  obtain ⟨A6, c6, rfl, -⟩ := own_form hu6
                  have G7 := Waiting_ok g vt w6 _ (HT9.out.below hb6) (by rw [TG_length (pre_length _ _)]; omega)
                  rw [TG_length (pre_length _ _), WL_end] at G7
                  have GC7 := Lib.hid G7
                  have HB6 := Lib.hid hb6
                  clear hu6 hb6 G7
                  go_wp2_with (fail)
                  refine GC7.out.mono ?_
                  rintro e w7 ⟨u7, rfl, hu7, hb7⟩
                  obtain ⟨A7, c7, rfl, -⟩ := own_form hu7
                  have HB7 := Lib.hid hb7
                  clear hu7 hb7
                  go_wp2_with (fail)
                  go_ret
                  exact ⟨rfl, HW5.out.trans ((HBQ.out.trans ((HB6.out.trans (HB7.out.mono HB6.out.size)).mono HBQ.out.size)).mono HW5.out.size)⟩
end Go.Proofs.Ytgegkebbbpapiaa.Dlm
