/- The walk of DlmLeaves: the law's body, and that it answers true. -/
import Derived.Test.YtgegkebbbpapiaaAsked
import Derived.RegionTactic
namespace Go.Proofs.Ytgegkebbbpapiaa.Dlm
open Go.RowKit
/-- Steps of an owner. -/
def ownr (o : Int) (x : Op5) : Bool := x.owner == o
def cntO (o : Int) (G : List Op5) : Nat := G.countP (ownr o)
theorem cntO_succ (o : Int) (G : List Op5) (i : Nat) (t : Op5) (h : G[i]? = some t) : cntO o (G.take (i + 1)) = cntO o (G.take i) + (if ownr o t then 1 else 0) := by
  unfold cntO
  rw [List.take_add_one, h, List.countP_append]
  simp [List.countP_cons]
theorem cntO_le (o : Int) (G : List Op5) (i : Nat) : cntO o (G.take i) ≤ i := by unfold cntO; exact Nat.le_trans List.countP_le_length (List.length_take_le _ _)
theorem cnt_tk (o : Int) (G : List Op5) : cnt o (G.map Op5.tk) = cntO o G := by
  unfold cnt cntO
  rw [List.countP_map]
  congr 1
  funext x
  simp only [Function.comp, hit, ownr, Op5.tk, Bool.not_false, Bool.and_true]
  rfl
theorem lv_hit {o : Int} {t : Tk} (h : hit o t = true) : lv o t = { t with gone := true } := if_pos h
theorem lv_miss {o : Int} {t : Tk} (h : hit o t = false) : lv o t = t := if_neg (by simp [h])
theorem hit_lv (o : Int) (t : Tk) : hit o (lv o t) = false := by
  cases h : hit o t with
  | true => rw [lv_hit h]; simp [hit]
  | false => rw [lv_miss h]; exact h
theorem cnt_lvs (o : Int) (ts : List Tk) : cnt o (lvs o ts) = 0 := by
  unfold cnt lvs
  rw [List.countP_map, List.countP_eq_zero]
  intro t _
  simp only [Function.comp]
  rw [hit_lv]
  simp
theorem lvs_lvs (o : Int) (ts : List Tk) : lvs o (lvs o ts) = lvs o ts := by
  unfold lvs
  rw [List.map_map]
  congr 1
  funext t
  simp only [Function.comp]
  exact lv_miss (hit_lv o t)
/-- Do two steps conflict, as the law asks; is there one ahead of another owner in conflict with o? -/
def confG (o y : Op5) : Bool := decide (o.lo ≤ y.hi) && (decide (y.lo ≤ o.hi) && (o.alone || y.alone))
def blk (k : Int) (o y : Op5) : Bool := !(y.owner == k) && confG o y
def fr (k : Int) (G : List Op5) (o : Op5) (j : Nat) : Bool := !(o.owner == k) && !((G.take j).any (blk k o))
section
variable {k ok oo ol oh yk yo yl yh : Int} {oa ya : Bool}
theorem blk_same (h : yo = k) : blk k ⟨ok, oo, ol, oh, oa⟩ ⟨yk, yo, yl, yh, ya⟩ = false := by simp [blk, h]
theorem blk_low (h : yh < ol) : blk k ⟨ok, oo, ol, oh, oa⟩ ⟨yk, yo, yl, yh, ya⟩ = false := by
  have : ¬ ol ≤ yh := by omega
  simp [blk, confG, this]
theorem blk_high (h : oh < yl) : blk k ⟨ok, oo, ol, oh, oa⟩ ⟨yk, yo, yl, yh, ya⟩ = false := by
  have : ¬ yl ≤ oh := by omega
  simp [blk, confG, this]
theorem blk_yes (h1 : ¬ yo = k) (h2 : ol ≤ yh) (h3 : yl ≤ oh) (h4 : oa = true ∨ ya = true) : blk k ⟨ok, oo, ol, oh, oa⟩ ⟨yk, yo, yl, yh, ya⟩ = true := by
  simp [blk, confG, h1, h2, h3, h4]
theorem blk_both (h1 : ¬ yo = k) (h2 : ¬ oa = true) (h3 : (yo != k) = false ∨ ya = false) : blk k ⟨ok, oo, ol, oh, oa⟩ ⟨yk, yo, yl, yh, ya⟩ = false := by
  have h4 : ya = false := by
    rcases h3 with h | h
    · simp at h; exact absurd h h1
    · exact h
  have h5 : oa = false := by simpa using h2
  simp [blk, confG, h4, h5]
end
theorem fr_succ (k : Int) (G : List Op5) (o y : Op5) (j : Nat) (h : G[j]? = some y) : fr k G o (j + 1) = (fr k G o j && !(blk k o y)) := by
  unfold fr
  rw [List.take_add_one, h, List.any_append]
  simp [Bool.and_assoc]
theorem st_law (k : Int) (G : List Op5) (i : Nat) (o : Op5) (h : G[i]? = some o) :
    (stOf (lvs k (G.map Op5.tk)) i == 3) = (o.owner == k) ∧ (stOf (lvs k (G.map Op5.tk)) i == 2) = fr k G o i := by
  have hT : (lvs k (G.map Op5.tk))[i]? = some (lv k o.tk) := by simp [lvs, h]
  have hst : stOf (lvs k (G.map Op5.tk)) i = if (lv k o.tk).gone then 3 else live (busy ((lvs k (G.map Op5.tk)).take i) (lv k o.tk)) := by unfold stOf; rw [hT]
  rw [hst]
  by_cases ho : o.owner = k
  · have hh : hit k o.tk = true := by simp [hit, Op5.tk, ho]
    rw [lv_hit hh]
    simp [fr, ho]
  · have hh : hit k o.tk = false := by simp [hit, Op5.tk, ho]
    rw [lv_miss hh]
    have hb : busy ((lvs k (G.map Op5.tk)).take i) o.tk = (G.take i).any (blk k o) := by
      unfold busy lvs
      rw [← List.map_take, ← List.map_take, List.any_map, List.any_map]
      congr 1
      funext y
      simp only [Function.comp]
      by_cases hy : y.owner = k
      · have h1 : hit k y.tk = true := by simp [hit, Op5.tk, hy]
        rw [lv_hit h1]
        simp [blk, hy]
      · have h1 : hit k y.tk = false := by simp [hit, Op5.tk, hy]
        rw [lv_miss h1]
        simp only [Op5.tk, conf, blk, confG]
        have : (y.owner == k) = false := by simpa using hy
        rw [this, Bool.or_comm y.alone]
        simp [Bool.and_left_comm]
        rfl
    rw [hb]
    have hne : (o.owner == k) = false := by simpa using ho
    unfold fr
    rw [hne]
    cases (G.take i).any (blk k o) <;> simp [Op5.tk, live]
set_option maxRecDepth 100000 in
set_option maxHeartbeats 8000000 in
theorem leaves_walk (A : Option Addr) (cap : Nat) (os : List Op5) (ow : Nat) (w : World) (hin : InOps w A os) (hlc : os.length ≤ cap) (hcm : cap ≤ maxLen) (how : ow < 256) :
    Calls Try.prog 3 #[.slice A os.length cap, .int .u8 (ow : Int)] w fun e w' => e = .returned (.bool true) ∧ Below w.heap.size w w' := by
  go_enter Try.func3, Try.ntmps3
  go_wp2_with (fail)
  refine (awake_any _).mono ?_
  rintro e w0 ⟨rfl, hb0⟩
  have HB0 := Lib.hid hb0
  have HIN0 := Lib.hid (hin.below hb0)
  clear hin hb0
  go_wp2_with (fail)
  refine (asked_any A cap os _ HIN0.out hlc hcm).mono ?_
  rintro e w1 ⟨vg, vt, rfl, hT, hG, hb1⟩
  have HB1 := Lib.hid (HB0.out.trans (hb1.mono HB0.out.size))
  have HT := Lib.hid hT
  have hl60 : (asks os 60).length ≤ 60 := asks_le os 60
  have hmem : ∀ x ∈ asks os 60, x ∈ os := fun x hx => List.mem_of_mem_take (List.mem_filter.1 hx).1
  have HMEM := Lib.hid hmem
  have HGG := Lib.hid hG
  clear hT hb1 hG hmem
  generalize asks os 60 = G at *
  have hGf : ∃ Ag cg, vg = .slice Ag G.length cg ∧ G.length ≤ cg := by
    rcases HGG.out.2 with ⟨hv, h0⟩ | ⟨g, c, cur, hv, _, _, h1, _⟩
    · exact ⟨none, 0, by rw [hv, h0], by omega⟩
    · exact ⟨_, c, hv, h1⟩
  obtain ⟨Ag, cg, rfl, hcg⟩ := hGf
  generalize hw0 : w0.heap.size = g at *
  have HW0 := Lib.hid hw0
  clear hw0
  go_wp2_with (fail)
  have hk0 : 0 ≤ (ow : Int) % 16 := by omega
  have hk1 : (ow : Int) % 16 ≤ 15 := by omega
  generalize (ow : Int) % 16 = k at *
  go_loop [8, 9] (fun v8 v9 => ∃ i : Nat, i ≤ G.length ∧ v8 = .int .i64 (cntO k (G.take i) : Int) ∧ v9 = .int .i64 i) (fun _ v9 => G.length - (intOf v9).toNat)
  case atStart => exact ⟨0, by omega, rfl, rfl⟩
  case round =>
    obtain ⟨i, hi, rfl, rfl⟩ := hrel
    by_cases hlt : i < G.length
    · obtain ⟨o, ho⟩ : ∃ o, G[i]? = some o := ⟨_, List.getElem?_eq_getElem hlt⟩
      have hs := cntO_succ k G i o ho
      have hle := cntO_le k G i
      obtain ⟨r, rfl⟩ : ∃ r, Ag = some ⟨r, 0, none⟩ := by
        rcases HGG.out.2 with ⟨_, h0⟩ | ⟨r, c, cur, hv, _⟩
        · rw [h0] at hlt; omega
        · injection hv with hA; exact ⟨r, hA⟩
      obtain ⟨x0, x1, x2, x3, x4⟩ := Given.cells HGG.out ho
      have HS := Lib.hid hs
      clear hs ho x0 x2 x3 x4
      obtain ⟨ok, oo, ol, oh, oa⟩ := o
      simp only at x1
      generalize cntO k (G.take i) = c at *
      cases hoo : (oo == k)
      · go_wp2_with (fail)
        go_round
        case rel => exact ⟨i + 1, by omega, by rw [HS.out]; simp only [ownr, hoo]; go_num, by go_num⟩
        case measure => simp [intOf]; omega
      · go_wp2_with (fail)
        go_round
        case rel => exact ⟨i + 1, by omega, by rw [HS.out]; simp only [ownr, hoo]; go_num, by go_num⟩
        case measure => simp [intOf]; omega
    · obtain rfl : i = G.length := by omega
      have e1 : cntO k (G.take G.length) = cnt k (G.map Op5.tk) := by rw [List.take_length, cnt_tk]
      rw [e1]
      go_wp2_with (fail)
      refine (Leave_ok g vt k _ _ HT.out (by simp; omega) hk0 hk1).mono ?_
      rintro e w2 ⟨rfl, hT2, hO2⟩
      have HT2 := Lib.hid hT2
      have HO2 := Lib.hid hO2
      clear hT2 hO2
      go_wp2_with (fail)
      refine (Leave_ok g vt k _ _ HT2.out (by simp [lvs]; omega) hk0 hk1).mono ?_
      rw [lvs_lvs, cnt_lvs]
      rintro e w3 ⟨rfl, hT3, hO3⟩
      have HT3 := Lib.hid hT3
      have HO3 := Lib.hid (HO2.out.trans hO3 (fun x hx => .inl hx))
      clear hT3 hO3
      generalize cnt k (G.map Op5.tk) = c at *
      have HG3 : Hid (Given w3 g (.slice Ag G.length cg) G) := own_kept HGG.out HO3.out (fun x hx hm => by
        rw [Option.mem_toList] at hm
        exact own_ne HGG.out HT.out.2 (by decide) x hx hm)
      have hgw : w.heap.size ≤ g := by have := HB0.out.size; rw [HW0.out] at this; exact this
      have HB3 : Hid (Below w.heap.size w w3) := Only.below HB1.out HO3.out HB1.out.size (fun x hx => by
        rw [Option.mem_toList] at hx
        have := (HT.out.2.lt x hx).1; omega)
      generalize hTT : lvs k (G.map Op5.tk) = T at *
      have hTl : T.length = G.length := by rw [← hTT]; simp [lvs]
      have HTT := Lib.hid hTT
      clear hTT
      go_wp2_with (fail)
      go_loopg [14] (G.length) (fun q v14 wr => ∃ i : Nat, i ≤ G.length ∧ v14 = .int .i64 i ∧ q = G.length - i ∧ Tab wr g vt T ∧ Given wr g (.slice Ag G.length cg) G ∧ Below w.heap.size w wr)
      case atStart => exact ⟨0, by omega, rfl, rfl, HT3.out, HG3.out, HB3.out⟩
      case round =>
        obtain ⟨i, hi, rfl, hq, hTr, hGr, hbr⟩ := hrel
        have HQ := Lib.hid hq
        have HTr := Lib.hid hTr
        have HGr := Lib.hid hGr
        have HBr := Lib.hid hbr
        clear hq hTr hGr hbr
        by_cases hlt : i < G.length
        · obtain ⟨o, ho⟩ : ∃ o, G[i]? = some o := ⟨_, List.getElem?_eq_getElem hlt⟩
          obtain ⟨r, rfl⟩ : ∃ r, Ag = some ⟨r, 0, none⟩ := by
            rcases HGG.out.2 with ⟨_, h0⟩ | ⟨r, c, cur, hv, _⟩
            · rw [h0] at hlt; omega
            · injection hv with hA; exact ⟨r, hA⟩
          have hst := st_law k G i o ho
          rw [HTT.out] at hst
          have C0 := State_ok g vt i wr T HTr.out (by omega) (by omega)
          generalize stOf T i = s at *
          obtain ⟨hs3, hs2⟩ := hst
          have HS2 := Lib.hid hs2
          have C := Lib.hid C0
          have HO := Lib.hid ho
          clear C0 ho hs2
          go_wp2_with (fail)
          refine C.out.mono ?_
          rintro e w4 ⟨rfl, hb4⟩
          have HT4 := Lib.hid (HTr.out.below hb4)
          have HG4 : Hid (Given w4 g (.slice (some ⟨r, 0, none⟩) G.length cg) G) := own_kept HGr.out (Only.of_below hb4 []) (by simp)
          have HB4 := Lib.hid (HBr.out.trans (hb4.mono HBr.out.size))
          have hrl : r < w4.heap.size := (HG4.out.lt r rfl).2
          clear hb4
          obtain ⟨x0, x1, x2, x3, x4⟩ := Given.cells HG4.out HO.out
          obtain ⟨ok, oo, ol, oh, oa⟩ := o
          simp only at x0 x1 x2 x3 x4 hs3
          have hx : (!((s == 3) == (oo == k))) = false := by rw [hs3]; simp
          have hx2 : ((s == 3) == (oo == k)) = true := by rw [hs3]; simp
          have hf0 : fr k G ⟨ok, oo, ol, oh, oa⟩ 0 = !(s == 3) := by rw [hs3]; simp [fr]
          have HF0 := Lib.hid hf0
          have HS3 := Lib.hid hs3
          clear hf0 hs3
          go_wp2_with (fail)
          clear hx hx2
          go_loopg [17, 18] (i) (fun q v17 v18 wq => ∃ j : Nat, j ≤ i ∧ v18 = .int .i64 j ∧ q = i - j ∧ v17 = .bool (fr k G ⟨ok, oo, ol, oh, oa⟩ j) ∧ Below w4.heap.size w4 wq)
          case atStart => exact ⟨0, by omega, rfl, rfl, by rw [HF0.out]; rfl, Below.refl _ _⟩
          case round =>
            obtain ⟨j, hj, rfl, hq, rfl, hbq⟩ := hrel
            have HQ2 := Lib.hid hq
            have HBq := Lib.hid hbq
            have hrq : r < _ := Nat.lt_of_lt_of_le hrl hbq.size
            by_cases hlj : j < i
            · obtain ⟨y, hy⟩ : ∃ y, G[j]? = some y := ⟨_, List.getElem?_eq_getElem (by omega)⟩
              have hfs := fr_succ k G ⟨ok, oo, ol, oh, oa⟩ y j hy
              obtain ⟨y0, y1, y2, y3, y4⟩ := Given.cells HG4.out hy
              rw [← bcell hbq r _ hrl] at y0 y1 y2 y3 y4 x0 x1 x2 x3 x4
              have HFS := Lib.hid hfs
              clear hfs hq hbq hy
              obtain ⟨yk, yo, yl, yh, ya⟩ := y
              simp only at y0 y1 y2 y3 y4
              generalize fr k G ⟨ok, oo, ol, oh, oa⟩ j = b at *
              go_wp2_with (fail)
              go_region
              all_goals
                go_wp2_with (fail)
              all_goals
                go_roundg (i - (j + 1))
                case measure => have := HQ2.out; omega
                case rel =>
                  refine ⟨j + 1, by omega, by go_num, rfl, ?_, ((HBq.out.alloc HBq.out.size _).alloc (by have := HBq.out.size; simp; omega) _).drew⟩
                  rw [HFS.out]
                  first
                    | rw [blk_same ‹yo = k›, Bool.not_false, Bool.and_true]
                    | rw [blk_low ‹yh < ol›, Bool.not_false, Bool.and_true]
                    | rw [blk_high ‹oh < yl›, Bool.not_false, Bool.and_true]
                    | rw [blk_yes ‹¬yo = k› ‹ol ≤ yh› ‹yl ≤ oh› (.inl ‹oa = true›), Bool.not_true, Bool.and_false]
                    | rw [blk_yes ‹¬yo = k› ‹ol ≤ yh› ‹yl ≤ oh› (.inr (And.right ‹(yo != k) = true ∧ ya = true›)), Bool.not_true, Bool.and_false]
                    | rw [blk_both ‹¬yo = k› ‹¬oa = true› ‹(yo != k) = false ∨ ya = false›, Bool.not_false, Bool.and_true]
            · obtain rfl : j = i := by omega
              have hs2 : (s == 2) = fr k G ⟨ok, oo, ol, oh, oa⟩ j := HS2.out
              have hx : (!((s == 2) == fr k G ⟨ok, oo, ol, oh, oa⟩ j)) = false := by rw [hs2]; simp
              clear hs2 hq hbq
              generalize fr k G ⟨ok, oo, ol, oh, oa⟩ j = b at *
              go_wp2_with (fail)
              go_roundg (G.length - (j + 1))
              case measure => have := HQ.out; omega
              case rel => exact ⟨j + 1, by omega, by go_num, rfl, HT4.out.below HBq.out, own_kept HG4.out (Only.of_below HBq.out []) (by simp), HB4.out.trans (HBq.out.mono HB4.out.size)⟩
        · go_wp2_with (fail)
          go_ret
          exact ⟨rfl, HBr.out⟩
theorem leaves_int (A : Option Addr) (cap : Nat) (os : List Op5) (a : Int) (w : World) (hin : InOps w A os) (hlc : os.length ≤ cap) (hcm : cap ≤ maxLen) (ha : (Lit.int .u8 a).wf = true) :
    Calls Try.prog 3 #[.slice A os.length cap, .int .u8 a] w fun e w' => e = .returned (.bool true) ∧ Below w.heap.size w w' := by
  have h1 : 0 ≤ a ∧ a < 256 := by
    simp [Lit.wf] at ha
    have e0 : IntKind.u8.min = 0 := by decide
    have e1 : IntKind.u8.max = 255 := by decide
    omega
  obtain ⟨n, rfl⟩ := Int.eq_ofNat_of_zero_le h1.1
  exact leaves_walk A cap os n w hin hlc hcm (by omega)
end Go.Proofs.Ytgegkebbbpapiaa.Dlm
