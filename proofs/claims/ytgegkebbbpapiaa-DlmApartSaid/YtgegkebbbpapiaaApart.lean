/- The walk of DlmApart: the law's body, and that it answers true. -/
import Derived.Test.YtgegkebbbpapiaaBools
import Derived.Deep.DeepCutAuto
namespace Go.Proofs.Ytgegkebbbpapiaa.Dlm
open Go.RowKit
set_option linter.unusedVariables false
/-- What the law keeps from round to round. -/
structure Ap (w0 wr : World) (g gv r b1 b2 : Nat) (vt : Value) (Ag : Option Addr) (cg : Nat) (G : List Op5) (gn hd : List Bool) : Prop where
  tab : Tab wr g vt (TG G gn)
  given : Given wr g (.slice Ag G.length cg) G
  gone : Bl wr b1 gn
  held : Bl wr b2 hd
  gl : gn.length = G.length
  hl : hd.length = G.length
  ne : b1 ≠ b2
  b1g : g ≤ b1
  b2g : g ≤ b2
  inv : ∀ a, gf hd a = true → gf gn a = true ∨ gr G gn a = true
  below : Below gv w0 wr
/-- Which tickets are among the first k of L. -/
def isTo (n : Nat) (L : List Nat) (k : Nat) : List Bool := (List.range n).map fun a => (L.take k).contains a
theorem isTo_length (n : Nat) (L : List Nat) (k : Nat) : (isTo n L k).length = n := by simp [isTo]
theorem isTo_zero (n : Nat) (L : List Nat) : isTo n L 0 = zeros n := by simp [isTo, zeros, List.map_const']
theorem isTo_set (n : Nat) (L : List Nat) (k x : Nat) (h : L[k]? = some x) : (isTo n L k).set x true = isTo n L (k + 1) := by
  apply List.ext_getElem?
  intro a
  rw [List.getElem?_set, isTo_length]
  unfold isTo
  rw [List.take_add_one, h, List.getElem?_map, List.getElem?_map]
  by_cases ha : a < n
  · rw [List.getElem?_range ha]
    by_cases hx : x = a
    · subst hx; simp [ha]
    · have hx2 : a ≠ x := fun e => hx e.symm
      simp [hx, hx2]
  · have h2 : (List.range n)[a]? = none := List.getElem?_eq_none (by simp; omega)
    rw [h2]
    split
    · rename_i e
      subst e
      rw [if_neg ha]
      rfl
    · rfl
theorem gf_isTo {n : Nat} {L : List Nat} {a : Nat} (ha : a < n) : gf (isTo n L L.length) a = L.contains a := by
  unfold gf isTo
  rw [List.getD_eq_getElem?_getD, List.getElem?_map, List.getElem?_range ha, List.take_length]
  rfl
theorem gf_gr {G : List Op5} {gn : List Bool} {a : Nat} (hl : gn.length = G.length) (ha : a < G.length) :
    gf (isTo G.length (those (TG G gn) 2 G.length) (those (TG G gn) 2 G.length).length) a = gr G gn a := by
  rw [gf_isTo ha, those_TG hl]
  cases h : gr G gn a with
  | true => rw [List.contains_iff_mem]; exact List.mem_filter.2 ⟨List.mem_range.2 ha, h⟩
  | false =>
    rw [Bool.eq_false_iff]
    intro hc
    rw [List.contains_iff_mem] at hc
    rw [(List.mem_filter.1 hc).2] at h
    cases h
theorem set_same' {l : List Bool} {i : Nat} {t : Bool} (h : l[i]? = some t) : l.set i t = l := by
  apply List.ext_getElem?
  intro j
  rw [List.getElem?_set]
  split
  · rename_i e; subst e
    obtain ⟨h1, h2⟩ := List.getElem?_eq_some_iff.1 h
    rw [if_pos h1, h]
  · rfl
theorem L_at {G : List Op5} {gn : List Bool} {k x : Nat} (hl : gn.length = G.length) (h : (those (TG G gn) 2 G.length)[k]? = some x) : x < G.length ∧ gf gn x = false := by
  rw [those_TG hl] at h
  have hm := List.mem_of_getElem? h
  rw [List.mem_filter, List.mem_range] at hm
  refine ⟨hm.1, ?_⟩
  have := hm.2
  unfold gr at this
  rw [Bool.and_eq_true] at this
  simpa using this.1
theorem ints_at' {w : World} {base r n cap : Nat} {L : List Nat} (h : w.ownsRow base 3 1 (.slice (some ⟨r, 0, none⟩) n cap) L.length (ints L)) {k x : Nat} (hk : L[k]? = some x) : w.cell? ⟨r, k, none⟩ = some (.int .i64 (x : Int)) := by
  have hl : k < L.length := (List.getElem?_eq_some_iff.1 hk).1
  have hn : n = L.length := by
    rcases h.2 with ⟨hv, h0⟩ | ⟨g, c, cur, hv, _⟩
    · cases hv
    · injection hv
  subst hn
  rw [h.cellAt k (by omega), ints, List.getElem?_map, hk]
  rfl
theorem conf_no {xk xo xl xh yk yo yl yh : Int} {xa ya : Bool} (h : conf (Op5.tk ⟨yk, yo, yl, yh, ya⟩) (Op5.tk ⟨xk, xo, xl, xh, xa⟩) = false) (h1 : xl ≤ yh) (h2 : yl ≤ xh) (h3 : xa = true ∨ ya = true) : False := by
  rcases h3 with rfl | rfl <;> simp [conf, Op5.tk, h1, h2] at h
set_option maxRecDepth 100000 in
set_option maxHeartbeats 8000000 in
theorem apart_walk (A : Option Addr) (cap : Nat) (os : List Op5) (As : Option Addr) (cs : Nat) (xs : List Int) (w : World) (hin : InOps w A os) (hlc : os.length ≤ cap) (hcm : cap ≤ maxLen)
    (hins : InInts w .u8 As xs) (hwf : ∀ x ∈ xs, 0 ≤ x ∧ x ≤ 255) (hls : xs.length ≤ cs) (hcs : cs ≤ maxLen) :
    Calls Try.prog 4 #[.slice A os.length cap, .slice As xs.length cs] w fun e w' => e = .returned (.bool true) ∧ Below w.heap.size w w' := by
  have HWF := Lib.hid hwf
  have HINS := Lib.hid hins
  clear hwf
  have hcs2 : cs ≤ 9223372036854775807 := by unfold maxLen at hcs; omega
  go_enter Try.func4, Try.ntmps4
  go_wp2_with (fail)
  refine (awake_any _).mono ?_
  rintro e w0 ⟨rfl, hb0⟩
  have HB0 := Lib.hid hb0
  have HIN0 := Lib.hid (hin.below hb0)
  clear hin hb0 hins
  go_wp2_with (fail)
  refine (asked_any A cap os _ HIN0.out hlc hcm).mono ?_
  rintro e w1 ⟨vg, vt, rfl, hT, hG, hb1⟩
  have HB1 := Lib.hid (HB0.out.trans (hb1.mono HB0.out.size))
  have hl60 : (asks os 60).length ≤ 60 := asks_le os 60
  obtain ⟨Ag, cg, rfl, hcg⟩ := own_form hG
  have HGG := Lib.hid hG
  rw [← TG_start] at hT
  have HT := Lib.hid hT
  clear hT hb1 hG hlc hcm
  generalize asks os 60 = G at *
  have hgw : w.heap.size ≤ w0.heap.size := HB0.out.size
  generalize w0.heap.size = g at *
  have hmk := run_mk G.length (by omega)
  go_wp2_with (fail)
  have hw3 : Below w.heap.size w ((w1.alloc (.cells (bools (zeros G.length)) 4)).alloc (.cells (bools (zeros G.length)) 4)) := (HB1.out.alloc HB1.out.size _).alloc (by have := HB1.out.size; simp; omega) _
  have hw4 : Below w1.heap.size w1 ((w1.alloc (.cells (bools (zeros G.length)) 4)).alloc (.cells (bools (zeros G.length)) 4)) := ((Below.refl _ _).alloc (Nat.le_refl _) _).alloc (by simp) _
  have hb1 : Bl ((w1.alloc (.cells (bools (zeros G.length)) 4)).alloc (.cells (bools (zeros G.length)) 4)) w1.heap.size (zeros G.length) := (Below.heap_alloc _ _ _ (by simp)).trans (heap_alloc_new w1 _)
  have hb2 : Bl ((w1.alloc (.cells (bools (zeros G.length)) 4)).alloc (.cells (bools (zeros G.length)) 4)) (w1.heap.size + 1) (zeros G.length) := by
    have e : w1.heap.size + 1 = (w1.alloc (.cells (bools (zeros G.length)) 4)).heap.size := by simp
    rw [e]
    exact heap_alloc_new _ _
  have hgw1 : g < w1.heap.size := HT.out.lt
  have hAp : Ap w ((w1.alloc (.cells (bools (zeros G.length)) 4)).alloc (.cells (bools (zeros G.length)) 4)) g w.heap.size 0 w1.heap.size (w1.heap.size + 1) vt Ag cg G (zeros G.length) (zeros G.length) :=
    ⟨HT.out.below hw4, own_kept HGG.out (Only.of_below hw4 []) (by simp), hb1, hb2, zeros_length _, zeros_length _, by omega, by omega, by omega, (fun a ha => by rw [gf_zeros] at ha; cases ha), hw3⟩
  have HAP := Lib.hid hAp
  clear hw3 hw4 hb1 hb2 hAp
  generalize ((w1.alloc (.cells (bools (zeros G.length)) 4)).alloc (.cells (bools (zeros G.length)) 4)) = w3 at *
  generalize w1.heap.size = b1 at *
  go_loopg [8, 9] (xs.length + 1) (fun q v8 v9 wr => ∃ i b2 gn hd, i ≤ xs.length ∧ v9 = .int .i64 (i : Nat) ∧ q = xs.length + 1 - i ∧ v8 = .slice (some ⟨b2, 0, none⟩) G.length G.length ∧ Ap w wr g w.heap.size 0 b1 b2 vt Ag cg G gn hd)
  case atStart => exact ⟨0, _, _, _, by omega, rfl, rfl, rfl, HAP.out⟩
  case round =>
    clear HAP
    obtain ⟨i, b2, gn, hd, hi, rfl, hq, rfl, hap⟩ := hrel
    have HQ := Lib.hid hq
    have AP := Lib.hid hap
    obtain ⟨wo, rfl⟩ : ∃ wo : World, wo = wr := ⟨_, rfl⟩
    clear hq hap
    have G0 := Granted_ok g vt wo (TG G gn) AP.out.tab (by rw [TG_length AP.out.gl]; omega)
    rw [TG_length AP.out.gl] at G0
    have GC := Lib.hid G0
    clear G0
    have hgl := AP.out.gl
    go_wp2_with (fail)
    refine GC.out.mono ?_
    rintro e w4 ⟨u, rfl, hu, hb4⟩
    have hLn : (those (TG G gn) 2 G.length).length ≤ G.length := those_le _ _ _
    obtain ⟨Au, cu, rfl, hcu⟩ := own_form hu
    have HU := Lib.hid hu
    have HB4 := Lib.hid hb4
    have hs4 := hb4.size
    clear hu hb4
    go_wp2_with (fail)
    have hb3 := heap_alloc_new w4 (.cells (bools (zeros G.length)) 4)
    have hw5 : Below w4.heap.size w4 (w4.alloc (.cells (bools (zeros G.length)) 4)) := (Below.refl _ _).alloc (Nat.le_refl _) _
    have hz5 : (w4.alloc (.cells (bools (zeros G.length)) 4)).heap.size = w4.heap.size + 1 := by simp
    have HB3 := Lib.hid hb3
    have HW5 := Lib.hid hw5
    have HZ5 := Lib.hid hz5
    clear hb3 hw5 hz5
    generalize w4.alloc (.cells (bools (zeros G.length)) 4) = w5 at *
    generalize hL : those (TG G gn) 2 G.length = L at *
    have HL := Lib.hid hL
    clear hL
    generalize hb3 : w4.heap.size = b3 at *
    have HB3E := Lib.hid hb3
    clear hb3
    go_loopg [12] (L.length) (fun q v12 wq => ∃ k : Nat, k ≤ L.length ∧ v12 = .int .i64 k ∧ q = L.length - k ∧ Bl wq b3 (isTo G.length L k) ∧ Only [b3] w5 wq)
    case atStart => exact ⟨0, by omega, rfl, rfl, by rw [isTo_zero]; exact HB3.out, Only.refl _ _⟩
    case round =>
      as_aux_lemma =>
        obtain ⟨k, hk, rfl, hq2, hbl, hon⟩ := hrel
        have HQ2 := Lib.hid hq2
        have HBL := Lib.hid hbl
        have HON := Lib.hid hon
        clear hq2 hbl hon
        by_cases hlt : k < L.length
        · obtain ⟨x, hx⟩ : ∃ x, L[k]? = some x := ⟨_, List.getElem?_eq_getElem hlt⟩
          have hxl := L_at hgl (by rw [HL.out]; exact hx)
          obtain ⟨hxn, hxg⟩ := hxl
          obtain ⟨ru, rfl⟩ : ∃ ru, Au = some ⟨ru, 0, none⟩ := by
            rcases HU.out.2 with ⟨_, h0⟩ | ⟨r, c, cur, hv, _⟩
            · omega
            · injection hv with hA; exact ⟨r, hA⟩
          have hul : ru < b3 := by rw [← HB3E.out]; exact (HU.out.lt ru rfl).2
          have hcu1 := ints_at' HU.out hx
          have hBW : Below b3 w4 wr := Only.below HW5.out HON.out (by have := HZ5.out; omega) (by intro y hy; simp at hy; omega)
          have hcx : wr.cell? ⟨ru, k, none⟩ = some (.int .i64 (x : Int)) := (bcell hBW ru k hul).trans hcu1
          have hb1lt : b1 < wo.heap.size := AP.out.gone.lt
          have hgx : wr.cell? ⟨b1, x, none⟩ = some (.bool false) := by
            have h1 := (((AP.out.gone.below HB4.out AP.out.gone.lt).below hBW (by omega)).cell (i := x) (by omega))
            rw [h1, hxg]
          have hix := HBL.out.cell (i := x) (by rw [isTo_length]; exact hxn)
          have hif := HBL.out.frozen x
          generalize gf (isTo G.length L k) x = bx at *
          clear hcu1
          go_wp2_with (fail)
          go_roundg (L.length - (k + 1))
          case measure => have := HQ2.out; omega
          case rel =>
            refine ⟨k + 1, by omega, by go_num, rfl, ?_, HON.out.trans (Only.set (p := ⟨b3, x, none⟩) _) (fun y hy => .inl hy)⟩
            rw [← isTo_set G.length L k x hx]
            exact HBL.out.set x
        · obtain rfl : k = L.length := by omega
          have hBW : Below b3 w4 wr := Only.below HW5.out HON.out (by have := HZ5.out; omega) (by intro y hy; simp at hy; omega)
          have hb1lt : b1 < wo.heap.size := AP.out.gone.lt
          have hb2lt : b2 < wo.heap.size := AP.out.held.lt
          have hBo : Below wo.heap.size wo wr := HB4.out.trans (hBW.mono hs4)
          have hbl3 : b3 < wr.heap.size := HBL.out.lt
          have T1 := Lib.hid (AP.out.tab.below hBo)
          have V1 : Hid (Given wr g (.slice Ag G.length cg) G) := own_kept AP.out.given (Only.of_below hBo []) (by simp)
          have N1 := Lib.hid (AP.out.gone.below hBo hb1lt)
          have H1 := Lib.hid (AP.out.held.below hBo hb2lt)
          have W1 := Lib.hid (AP.out.below.trans (hBo.mono AP.out.below.size))
          have hIS : ∀ a, a < G.length → gf (isTo G.length L L.length) a = gr G gn a := fun a ha => by rw [← HL.out]; exact gf_gr hgl ha
          have HIS := Lib.hid hIS
          have I1 := HBL
          have hisl : (isTo G.length L L.length).length = G.length := isTo_length _ _ _
          clear hBW hBo hIS HB3 HW5 HZ5 HU HON HBL GC
          generalize isTo G.length L L.length = is at *
          obtain ⟨wi, rfl⟩ : ∃ wi : World, wi = wr := ⟨_, rfl⟩
          go_wp2_with (fail)
          go_loopg [13, 14] (G.length) (fun q v13 v14 wq => ∃ a : Nat, a ≤ G.length ∧ v14 = .int .i64 a ∧ q = G.length - a ∧ v13 = .bool (firstTo gn a) ∧ Below wi.heap.size wi wq)
          case atStart => exact ⟨0, by omega, rfl, rfl, rfl, Below.refl _ _⟩
          case round =>
            as_aux_lemma =>
              obtain ⟨a, ha, rfl, hq3, rfl, hbq⟩ := hrel
              have HQ3 := Lib.hid hq3
              have HBQ := Lib.hid hbq
              clear hq3 hbq
              by_cases hlt3 : a < G.length
              · have hb1i : b1 < wi.heap.size := N1.out.lt
                have hb2i : b2 < wi.heap.size := H1.out.lt
                have hb3i : b3 < wi.heap.size := I1.out.lt
                have hga : wr.cell? ⟨b1, a, none⟩ = some (.bool (gf gn a)) := (bcell HBQ.out b1 a hb1i).trans (N1.out.cell (by omega))
                have hha : wr.cell? ⟨b2, a, none⟩ = some (.bool (gf hd a)) := (bcell HBQ.out b2 a hb2i).trans (H1.out.cell (by have := AP.out.hl; omega))
                have hia : wr.cell? ⟨b3, a, none⟩ = some (.bool (gr G gn a)) := by rw [← HIS.out a hlt3]; exact (bcell HBQ.out b3 a hb3i).trans (I1.out.cell (by omega))
                have c1 := AP.out.inv a
                have c2 : firstTo gn a = true → gf gn a = true ∨ gr G gn a = true := fun h => by
                  cases hg : gf gn a with
                  | true => exact .inl rfl
                  | false => exact .inr (first_gr h hg)
                have C12 := Lib.hid (And.intro c1 c2)
                have HFS := Lib.hid (firstTo_succ (gn := gn) a)
                clear c1 c2
                generalize hgr : gr G gn a = Ii at *
                generalize gf gn a = Gg at *
                generalize gf hd a = Hh at *
                generalize firstTo gn a = f at *
                have HGR := Lib.hid hgr
                clear hgr
                obtain ⟨wl, rfl⟩ : ∃ wl : World, wl = wr := ⟨_, rfl⟩
                go_upto_region 21 with (fail)
                go_cut [119] (fun v119 wx => v119 = .bool false ∧ wl = wx)
                case first =>
                  as_aux_lemma =>
                    have h12 := C12.out
                    cases Hh <;> cases Gg <;> cases Ii <;> cases f <;> simp at h12
                    all_goals (try clear h12) <;> (go_wp2_with (fail); go_meet; exact ⟨rfl, rfl⟩)
                case rest =>
                  as_aux_lemma =>
                    obtain ⟨rfl, rfl⟩ := hcut
                    go_upto_region 23 with (fail)
                    go_cut [13] (fun v13 wx => v13 = .bool (f && Gg) ∧ wl = wx)
                    case first =>
                      as_aux_lemma =>
                        cases f <;> cases Gg
                        all_goals (go_wp2_with (fail); go_meet; exact ⟨rfl, rfl⟩)
                    case rest =>
                      as_aux_lemma =>
                        obtain ⟨rfl, rfl⟩ := hcut
                        clear hga hha
                        go_wp2_with (fail)
                        go_loopg [15] (a) (fun q v15 wq => ∃ b : Nat, b ≤ a ∧ v15 = .int .i64 b ∧ q = a - b ∧ Below wi.heap.size wi wq)
                        case atStart => exact ⟨0, by omega, rfl, rfl, HBQ.out⟩
                        case round =>
                          as_aux_lemma =>
                            obtain ⟨b, hb, rfl, hq4, hbq4⟩ := hrel
                            have HQ4 := Lib.hid hq4
                            have HB4q := Lib.hid hbq4
                            have hia4 : wr.cell? ⟨b3, a, none⟩ = some (.bool Ii) := by rw [← HGR.out, ← HIS.out a hlt3]; exact (bcell hbq4 b3 a hb3i).trans (I1.out.cell (by omega))
                            clear hq4 hbq4 hia
                            by_cases hlb : b < a ∧ Ii = true
                            · obtain ⟨hlb, rfl⟩ := hlb
                              obtain ⟨r, rfl⟩ : ∃ r, Ag = some ⟨r, 0, none⟩ := by
                                rcases HGG.out.2 with ⟨_, h0⟩ | ⟨r, c, cur, hv, _⟩
                                · omega
                                · injection hv with hA; exact ⟨r, hA⟩
                              have hri : r < wi.heap.size := (V1.out.lt r rfl).2
                              have hrw : r < wr.heap.size := Nat.lt_of_lt_of_le hri HB4q.out.size
                              have hb3w : b3 < wr.heap.size := Nat.lt_of_lt_of_le hb3i HB4q.out.size
                              obtain ⟨x0, x1, x2, x3, x4⟩ := Given.cells V1.out (at_Go (G := G) (i := a) hlt3)
                              obtain ⟨y0, y1, y2, y3, y4⟩ := Given.cells V1.out (at_Go (G := G) (i := b) (by omega))
                              rw [← bcell HB4q.out r _ hri] at x0 x1 x2 x3 x4 y0 y1 y2 y3 y4
                              have hib : wr.cell? ⟨b3, b, none⟩ = some (.bool (gr G gn b)) := by rw [← HIS.out b (by omega)]; exact (bcell HB4q.out b3 b hb3i).trans (I1.out.cell (by omega))
                              have hcf : gr G gn b = true → conf (Go G b).tk (Go G a).tk = false := fun h => gr_apart hlb HGR.out h
                              generalize gr G gn b = B at *
                              generalize Go G a = X at *
                              generalize Go G b = Y at *
                              obtain ⟨xk, xo, xl, xh, xa⟩ := X
                              obtain ⟨yk, yo, yl, yh, ya⟩ := Y
                              simp only at x0 x1 x2 x3 x4 y0 y1 y2 y3 y4
                              have HCF := Lib.hid hcf
                              clear hcf
                              cases B
                              · go_wp2_with (fail)
                                go_region
                                all_goals
                                  go_wp2_with (fail)
                                  go_roundg (a - (b + 1))
                                  case measure => have := HQ4.out; omega
                                  case rel => exact ⟨b + 1, by omega, by go_num, rfl, ((HB4q.out.alloc HB4q.out.size _).alloc (by have := HB4q.out.size; simp; omega) _).drew⟩
                              · have hcf2 := Lib.hid (HCF.out rfl)
                                go_wp2_with (fail)
                                go_region
                                all_goals go_wp2_with (fail)
                                all_goals
                                  first
                                    | exact (conf_no hcf2.out ‹xl ≤ yh› ‹yl ≤ xh› (.inl ‹xa = true›)).elim
                                    | exact (conf_no hcf2.out ‹xl ≤ yh› ‹yl ≤ xh› (.inr ‹ya = true›)).elim
                                    | (go_roundg (a - (b + 1))
                                       case measure => have := HQ4.out; omega
                                       case rel => exact ⟨b + 1, by omega, by go_num, rfl, ((HB4q.out.alloc HB4q.out.size _).alloc (by have := HB4q.out.size; simp; omega) _).drew⟩)
                            · rcases Nat.lt_or_ge b a with hlb2 | hge
                              · have hI : Ii = false := by
                                  cases Ii with
                                  | true => exact absurd ⟨hlb2, rfl⟩ hlb
                                  | false => rfl
                                subst hI
                                clear hlb
                                go_wp2_with (fail)
                                go_roundg (G.length - (a + 1))
                                case measure => have := HQ3.out; omega
                                case rel => exact ⟨a + 1, by omega, by go_num, rfl, by rw [HFS.out], HB4q.out⟩
                              · obtain rfl : b = a := by omega
                                clear hlb
                                go_wp2_with (fail)
                                go_roundg (G.length - (b + 1))
                                case measure => have := HQ3.out; omega
                                case rel => exact ⟨b + 1, by omega, by go_num, rfl, by rw [HFS.out], HB4q.out⟩
              · clear ha
                by_cases hend : i = xs.length
                · have hie : ((i : Int) == (xs.length : Int)) = true := by rw [beq_iff_eq]; omega
                  go_wp2_with (fail)
                  go_ret
                  exact ⟨rfl, W1.out.trans (HBQ.out.mono W1.out.size)⟩
                by_cases hg0 : G.length = 0
                · have hie : ((i : Int) == (xs.length : Int)) = false := by rw [beq_eq_false_iff_ne]; omega
                  have hge : ((G.length : Int) == 0) = true := by rw [beq_iff_eq]; omega
                  go_wp2_with (fail)
                  go_ret
                  exact ⟨rfl, W1.out.trans (HBQ.out.mono W1.out.size)⟩
                have hie : ((i : Int) == (xs.length : Int)) = false := by rw [beq_eq_false_iff_ne]; omega
                have hge : ((G.length : Int) == 0) = false := by rw [beq_eq_false_iff_ne]; omega
                have hil : i < xs.length := by omega
                obtain ⟨x, hx⟩ : ∃ x, xs[i]? = some x := ⟨_, List.getElem?_eq_getElem hil⟩
                obtain ⟨hx0, hx1⟩ := HWF.out x (List.mem_of_getElem? hx)
                obtain ⟨b, off, rfl, hbl, hrow⟩ : ∃ b off, As = some ⟨b, off, none⟩ ∧ b < w.heap.size ∧ _ := by
                  rcases HINS.out with h | ⟨b, off, hA, hbl, h⟩
                  · rw [h] at hil; simp at hil
                  · exact ⟨b, off, hA, hbl, h i x hx⟩
                have hWr : Below w.heap.size w wr := W1.out.trans (HBQ.out.mono W1.out.size)
                rw [← bcell hWr b _ hbl] at hrow
                have HWR := Lib.hid hWr
                obtain ⟨xn, rfl⟩ := Int.eq_ofNat_of_zero_le hx0
                have hk : xn % G.length < G.length := Nat.mod_lt _ (by omega)
                have hrem : Int.tmod (xn : Int) (G.length : Int) = ((xn % G.length : Nat) : Int) := by
                  rw [Int.tmod_eq_emod_of_nonneg (by omega)]; rfl
                have T2 := Lib.hid (T1.out.below HBQ.out)
                have N2 := Lib.hid (N1.out.below HBQ.out N1.out.lt)
                have I2 := Lib.hid (I1.out.below HBQ.out I1.out.lt)
                have V2 : Hid (Given wr g (.slice Ag G.length cg) G) := own_kept V1.out (Only.of_below HBQ.out []) (by simp)
                have HIL := Lib.hid (show gn.length = G.length from hgl)
                clear hx hWr hend hg0
                generalize xn % G.length = k at *
                have C : ∃ ev : Int, (ev = if gf gn k then 10 else 0) ∧ Calls Try.prog 14 #[.pointer (some ⟨g, 0, none⟩), .int .i64 (k : Int)] wr fun e w' => e = .returned (.int .i64 ev) ∧ Tab w' g vt (TG G (gn.set k true)) ∧ Only vt.ownBlock.toList wr w' := by
                  cases hgk : gf gn k with
                  | true =>
                    refine ⟨10, rfl, (Free_gone g vt k wr _ T2.out (by rw [TG_length hgl]; exact hk) (by rw [TG_length hgl]; omega) ((st_3 hgl hk).2 hgk)).mono fun e w' h => ⟨h.1, ?_, Only.of_below h.2 _⟩⟩
                    have : gn.set k true = gn := set_same' (by rw [at_gf (by omega), hgk])
                    rw [this]
                    exact T2.out.below h.2
                  | false =>
                    refine ⟨0, rfl, (Free_ok g vt k wr _ T2.out (by rw [TG_length hgl]; exact hk) (by rw [TG_length hgl]; omega) (fun h => by rw [(st_3 hgl hk).1 h] at hgk; cases hgk)).mono fun e w' h => ⟨h.1, ?_, h.2.2⟩⟩
                    rw [← TG_gone hgl hk]
                    exact h.2.1
                obtain ⟨ev, hev, C⟩ := C
                have HC := Lib.hid C
                clear C
                have hnt := (N2.out.ne_tab T2.out).2
                have hnt3 := (I2.out.ne_tab T2.out).2
                have HNT := Lib.hid hnt
                have HNT3 := Lib.hid hnt3
                clear hnt hnt3
                go_wp2_with (fail)
                refine HC.out.mono ?_
                rintro e w6 ⟨rfl, hT6, hO6⟩
                have hn1 : b1 ∉ vt.ownBlock.toList := fun hm => HNT.out (by rw [Option.mem_toList] at hm; exact hm)
                have hn3 : b3 ∉ vt.ownBlock.toList := fun hm => HNT3.out (by rw [Option.mem_toList] at hm; exact hm)
                have T6 := Lib.hid hT6
                have N6 := Lib.hid (N2.out.kept hO6 hn1)
                have I6 := Lib.hid (I2.out.kept hO6 hn3)
                have V6 : Hid (Given w6 g (.slice Ag G.length cg) G) := own_kept V2.out hO6 (fun y hy hm => by
                  rw [Option.mem_toList] at hm
                  exact own_ne V2.out T2.out.2 (by decide) y hy hm)
                have W6 := Lib.hid (Only.below HWR.out hO6 HWR.out.size (fun y hy => by
                  rw [Option.mem_toList] at hy
                  have := (T2.out.2.lt y hy).1; omega))
                have hgc : w6.cell? ⟨b1, k, none⟩ = some (.bool (gf gn k)) := N6.out.cell (by omega)
                have hgfz : w6.frozen? ⟨b1, k, none⟩ = false := N6.out.frozen k
                have HEV := Lib.hid hev
                clear hT6 hO6 hn1 hn3 hev
                have hap6 : Ap w (w6.setCell ⟨b1, k, none⟩ (.bool true)) g w.heap.size 0 b1 b3 vt Ag cg G (gn.set k true) is := by
                  have hO : Only [b1] w6 (w6.setCell ⟨b1, k, none⟩ (.bool true)) := Only.set (p := ⟨b1, k, none⟩) _
                  have hne1 := N6.out.ne_tab T6.out
                  refine ⟨T6.out.kept hO (by simpa using fun e => hne1.1 e.symm) (fun y hy hm => by simp at hm; subst hm; exact hne1.2 hy), own_kept V6.out hO (fun y hy hm => by simp at hm; subst hm; exact own_blk V6.out N6.out (by decide) hy), N6.out.set k, I6.out.far _ _ (by show b3 ≠ b1; omega), by simp [hgl], hisl, by omega, by omega, by omega, ?_, ?_⟩
                  · intro a haa
                    by_cases han : a < G.length
                    · rw [HIS.out a han] at haa
                      exact gr_mono (by omega) haa
                    · exfalso
                      rw [gf, List.getD_eq_getElem?_getD, List.getElem?_eq_none (by omega)] at haa
                      cases haa
                  · exact W6.out.setCell (p := ⟨b1, k, none⟩) (by show _ ≤ b1; omega) _
                have HAP6 := Lib.hid hap6
                clear hap6
                cases hgk : gf gn k
                all_goals
                  have he := HEV.out
                  rw [hgk] at he hgc
                  simp only [Bool.false_eq_true, if_false, if_true] at he
                  subst he
                  go_wp2_with (fail)
                  go_roundg (xs.length + 1 - (i + 1))
                  case measure => have := HQ.out; omega
                  case rel => exact ⟨i + 1, b3, _, is, by omega, by go_num, rfl, rfl, HAP6.out⟩
open Go.ChangeShapes Go.WideShapes in
theorem open_u8s {H : Type} {enc : TypeId × Value → H} {W : World} {base : Nat} {v : Value} {d : DataW H} {p : List MemPlace} (hv : Value.okWide Try.prog W .any base 33 v) (h : DataW.Trod enc Try.prog W 0 (fun _ => true) true 33 v d p) :
    ∃ (A : Option Addr) (cap : Nat) (xs : List Int), v = .slice A xs.length cap ∧ xs.length ≤ cap ∧ cap ≤ maxLen ∧ InInts W .u8 A xs ∧ ∀ x ∈ xs, (Lit.int .u8 x).wf = true := by
  obtain ⟨a0, len0, cap0, rfl⟩ := okWide_slice Try.underlying33 hv
  obtain ⟨fuel, hf⟩ := h
  rcases open_ints Try.underlying33 Try.underlying5 (by kernel_rfl) hf with ⟨hc, _⟩ | ⟨a, len, cap, zs, hc, _, hl, hm, hz, _, hcell, hwz⟩
  · simp [Value.cells] at hc
    obtain ⟨rfl, rfl, rfl⟩ := hc
    exact ⟨none, 0, [], rfl, Nat.le_refl _, by unfold maxLen; omega, .inl rfl, fun o ho => by cases ho⟩
  · simp [Value.cells] at hc
    obtain ⟨rfl, rfl, rfl⟩ := hc
    have hzl : zs.length = cap0 := by simpa using hz
    have hlen : (zs.take len0).length = len0 := by simp; omega
    refine ⟨some a, cap0, zs.take len0, by rw [hlen], by rw [hlen]; exact hl, hm, ?_, fun x hx => hwz x (List.mem_of_mem_take hx)⟩
    rcases Nat.eq_zero_or_pos len0 with h0 | h0
    · subst h0; exact .inl rfl
    · have hc0 := hcell 0 (by omega)
      rw [show a.add 0 = a from rfl] at hc0
      obtain ⟨hs, hb⟩ := addr_plain hc0
      obtain ⟨b, off, spot⟩ := a
      simp only at hs hb
      subst hs
      refine .inr ⟨b, off, rfl, hb, fun i x hx => ?_⟩
      have hil : i < len0 := by have := (List.getElem?_eq_some_iff.1 hx).1; omega
      have := hcell i (by omega)
      rw [addr_add] at this
      rw [this]
      rw [List.getElem?_take_of_lt hil] at hx
      rw [List.getD_eq_getElem?_getD, hx]
      rfl
theorem apart_int (A : Option Addr) (cap : Nat) (os : List Op5) (As : Option Addr) (cs : Nat) (xs : List Int) (w : World) (hin : InOps w A os) (hlc : os.length ≤ cap) (hcm : cap ≤ maxLen)
    (hins : InInts w .u8 As xs) (hwf : ∀ x ∈ xs, (Lit.int .u8 x).wf = true) (hls : xs.length ≤ cs) (hcs : cs ≤ maxLen) :
    Calls Try.prog 4 #[.slice A os.length cap, .slice As xs.length cs] w fun e w' => e = .returned (.bool true) ∧ Below w.heap.size w w' := by
  refine apart_walk A cap os As cs xs w hin hlc hcm hins (fun x hx => ?_) hls hcs
  have h := hwf x hx
  simp [Lit.wf] at h
  have e0 : IntKind.u8.min = 0 := by decide
  have e1 : IntKind.u8.max = 255 := by decide
  omega
end Go.Proofs.Ytgegkebbbpapiaa.Dlm

