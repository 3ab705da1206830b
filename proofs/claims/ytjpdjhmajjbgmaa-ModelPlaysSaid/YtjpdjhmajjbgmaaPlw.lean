/- ModelPlays, walked. -/
import Derived.Test.YtjpdjhmajjbgmaaPl0
set_option linter.unusedVariables false
set_option linter.unusedSimpArgs false
namespace Go.Proofs.Ytjpdjhmajjbgmaa.Md
open Go Go.RowKit Res
open Wd (Cmd u8s balloc Rd Opm InScript)
theorem wpStill_run_w {P : Program} {ops : Array Oper} {rest : List Oper} {o : Oper} {a : Act} {w : World} {Q : Act → Prop} (hw : Region.wanted o (yielded ops a.tmps) = true) {v : Value} (h1 : (execOp a.eval o).run P w = .ok (.value v) w)
    (h : wpStill P ops w Q rest (a.put o.dst v)) : wpStill P ops w Q (o :: rest) a := by
  refine wpStill_step (fun K hK => ?_)
  rw [if_pos hw]
  unfold Oper.still
  rw [h1, Oper.stillUpon_value]
  exact hK _ h
theorem box_new (w : World) (old row : Array Value) (t : TypeId) : ((w.alloc (.cells old t)).setRow w.heap.size row).heap[w.heap.size]? = some (.cells row t (0, 0)) ∧ Below w.heap.size w ((w.alloc (.cells old t)).setRow w.heap.size row) :=
  ⟨Wd.heap_setRow (heap_alloc_new w _) _, Only.below (balloc w _) (Only.setRow _) (by simp) (by simp)⟩
theorem two_new (W : World) (z1 z2 r1 r2 : Array Value) (t1 t2 : TypeId) :
    ((((W.alloc (.cells z1 t1)).alloc (.cells z2 t2)).setRow W.heap.size r1).setRow (W.heap.size + 1) r2).heap[W.heap.size]? = some (.cells r1 t1 (0, 0)) ∧
    ((((W.alloc (.cells z1 t1)).alloc (.cells z2 t2)).setRow W.heap.size r1).setRow (W.heap.size + 1) r2).heap[W.heap.size + 1]? = some (.cells r2 t2 (0, 0)) ∧
    Below W.heap.size W ((((W.alloc (.cells z1 t1)).alloc (.cells z2 t2)).setRow W.heap.size r1).setRow (W.heap.size + 1) r2) := by
  have o1 := Only.setRow (w := (W.alloc (.cells z1 t1)).alloc (.cells z2 t2)) (g := W.heap.size) r1
  have o2 := Only.setRow (w := ((W.alloc (.cells z1 t1)).alloc (.cells z2 t2)).setRow W.heap.size r1) (g := W.heap.size + 1) r2
  have a1 := Wd.heap_setRow (Wd.two_first W (.cells z1 t1) (.cells z2 t2)) r1
  have a2 := (o1.block (W.heap.size + 1) (lt_of_heap (Wd.two_last W (.cells z1 t1) (.cells z2 t2))) (by simp)).trans (Wd.two_last W (.cells z1 t1) (.cells z2 t2))
  have b1 := Only.below (Wd.two_below W (.cells z1 t1) (.cells z2 t2)) o1 (by simp <;> omega) (by simp)
  exact ⟨(o2.block W.heap.size (lt_of_heap a1) (by simp)).trans a1, Wd.heap_setRow a2 r2, Only.below b1 o2 b1.size (by simp)⟩
def z51 : Array Value := #[.bool false, .int .i64 0, .int .i64 0, .int .i64 0, .int .i64 0, .slice none 0 0, .int .u64 0, .int .i64 0, .bool false]
def r51 (lo : Bool) (ini : Int) (c : Cmd) (dv : Value) : List Value := [.bool lo, .int .i64 ini, .int .i64 c.kind, .int .i64 c.lba, .int .i64 c.count, dv, .int .u64 c.key, .int .i64 c.res, .bool c.keep]
theorem r51_one (lo : Bool) (ini : Int) (c : Cmd) (A : Option Addr) (n cp : Nat) : (r51 lo ini c (.slice A n cp)).toArray.all (·.oneCell') = true := by simp [r51, Value.oneCell']
theorem r51_cmd {W : World} {b : Nat} {lo : Bool} {ini : Int} {c : Cmd} {dv : Value} (h : W.heap[b]? = some (.cells (r51 lo ini c dv).toArray 51 (0, 0))) : W.rangeAt b 2 [.int .i64 c.kind, .int .i64 c.lba, .int .i64 c.count, dv, .int .u64 c.key, .int .i64 c.res, .bool c.keep] := by
  intro j v hv
  rw [cell_of_heap h, List.getElem?_toArray]
  unfold r51
  rw [show (2 + j) = j + 1 + 1 from by omega]
  exact hv
theorem own_nin {W : World} {base b n : Nat} {v : Value} {row : Array Value} {t : TypeId} {xs : List Value} (h : W.ownsRow base 24 16 v n xs) (hb : W.heap[b]? = some (.cells row t (0, 0))) (ht : (24 : TypeId) ≠ t) : b ∉ v.ownBlock.toList := fun hm => by
  have := Wd.own_blk h hb ht
  exact this (by simpa using hm)
/-- Sectors that are read lie in no box of a unit. -/
theorem rd_far {W : World} {b7 n : Nat} {v vs : Value} {d : Dk} {xs : List Int} {r : Array Value} (h : Rd W v n 16 (u8s xs)) (hb : W.heap[b7]? = some (.cells (ucells d vs) 48 (0, 0))) (hvs : ∃ A m c, vs = .slice A m c) : Rd (W.setRow b7 r) v n 16 (u8s xs) := by
  obtain ⟨h1, A, cap, hv, hn, hc, hz, h2⟩ := h
  refine ⟨h1, A, cap, hv, hn, hc, hz, fun h0 => ?_⟩
  obtain ⟨b, off, hA, hl, hx⟩ := h2 h0
  have ho := Only.setRow (w := W) (g := b7) r
  have hne : b ≠ b7 := by
    rintro rfl
    obtain ⟨x0, hx0⟩ : ∃ x0, (u8s xs)[0]? = some (.int .u8 x0) := by
      have hlen : 0 < xs.length := by rw [u8s_len] at h1; omega
      unfold u8s
      rw [List.getElem?_map, List.getElem?_eq_getElem hlen]
      exact ⟨_, rfl⟩
    have hcell := hx 0 _ hx0
    rw [cell_of_heap hb, ucells, List.getElem?_toArray] at hcell
    have hmem := List.mem_of_getElem? hcell
    obtain ⟨A', m, c', rfl⟩ := hvs
    unfold Dk.vals at hmem
    simp at hmem
  refine ⟨b, off, hA, Nat.lt_of_lt_of_le hl ho.size, fun j u hu => ?_⟩
  have := hx j u hu
  simp only [World.cell?, ho.block b hl (by simpa using hne)] at this ⊢
  exact this
def j123 : List Int := [1, 2, 3, 0, 0, 0, 0, 0, 0, 0, 0, 0, 0, 0, 0, 0]
def j321 : List Int := [3, 2, 1, 0, 0, 0, 0, 0, 0, 0, 0, 0, 0, 0, 0, 0]
theorem pl_start {w W : World} {g gd gs n rs cs : Nat} {bs : List Int} (hu : HasU W g gd gs Dk.new n bs) (ho : W.ownsRow w.heap.size 24 16 (.slice (some ⟨rs, 0, none⟩) n cs) n (u8s bs)) (hb : Below w.heap.size w W) (hne : rs ≠ gs) (hg : w.heap.size ≤ g ∧ w.heap.size ≤ gd ∧ w.heap.size ≤ gs ∧ w.heap.size ≤ W.heap.size) {z : Array Value} :
    Pl w ((W.alloc (.cells z 48)).setRow W.heap.size (ucells Dk.new (.slice (some ⟨rs, 0, none⟩) n cs))) g gd gs W.heap.size n Dk.new Dk.new bs bs rs cs := by
  have hbel : Below W.heap.size W ((W.alloc (.cells z 48)).setRow W.heap.size (ucells Dk.new (.slice (some ⟨rs, 0, none⟩) n cs))) := Only.below (balloc W _) (Only.setRow _) (by simp) (by simp)
  exact ⟨hu.below hbel, Wd.heap_setRow (heap_alloc_new W _) _, Wd.own_below ho hbel, hne, hb.trans (hbel.mono hb.size), hg, rfl⟩
set_option maxRecDepth 100000 in
set_option maxHeartbeats 16000000 in
theorem plays_walk (cap : Int) (A : Option Addr) (os : List Opm) (scap : Nat) (w : World) (hin : InScript w A os) (hl : os.length ≤ scap) (hm : scap ≤ maxLen) :
    Calls Try.prog 6 #[.int .i64 cap, .slice A os.length scap] w fun e w' => e = .returned (.bool true) ∧ Below w.heap.size w w' := by
  obtain ⟨fs46, hu46⟩ := u41
  obtain ⟨fs48, hu48⟩ := u48
  have HU46 := Lib.hid hu46
  have HU48 := Lib.hid hu48
  have HIN := Lib.hid hin
  have hmx : os.length ≤ 9223372036854775807 := by unfold maxLen at hm; omega
  have HAW := Lib.hid (fun W => awake_any W)
  clear hin hl hm hu46 hu48
  go_enter Try.func6, Try.ntmps6
  go_wp2_with (fail)
  refine (HAW.out _).mono ?_
  rintro e wb ⟨rfl, hbb⟩
  have HB := Lib.hid hbb
  clear hbb HAW
  by_cases hbad : cap < 1 ∨ 65536 < cap
  · as_aux_lemma =>
      have HNB := Lib.hid (fun W => new_bad cap W hbad)
      rcases hbad with h0 | h0
      · have h1 : ¬ 300 < cap := by omega
        go_wp2_with (fail)
        refine (HNB.out _).mono ?_
        rintro e wc ⟨rfl, rfl⟩
        go_wp2_with (fail)
        go_ret
        exact ⟨rfl, HB.out⟩
      · have h1 : 300 < cap := by omega
        have h2 : ¬ cap ≤ 65536 := by omega
        have h3 : ¬ cap < 1 := by omega
        go_wp2_with (fail)
        refine (HNB.out _).mono ?_
        rintro e wc ⟨rfl, rfl⟩
        go_wp2_with (fail)
        go_ret
        exact ⟨rfl, HB.out⟩
  have h0 : ¬ cap < 1 := fun h => hbad (.inl h)
  have h9 : cap ≤ 65536 := by omega
  clear hbad
  go_upto_region 3 with (fail)
  go_cut [26] (fun v wc' => wb = wc' ∧ ∃ qq : Bool, v = .bool qq ∧ (qq = true ↔ 300 < cap))
  case first =>
    as_aux_lemma =>
      by_cases h1 : 300 < cap
      · go_wp2_with (fail)
        go_meet
        exact ⟨rfl, true, rfl, by simp [h1]⟩
      · go_wp2_with (fail)
        go_meet
        exact ⟨rfl, false, rfl, by simp [h1]⟩
  case rest =>
    obtain ⟨rfl, qq, rfl, hqq⟩ := hcut
    have HQQ := Lib.hid hqq
    clear hqq
    rename_i hcont
    refine hcont _ _ ?_
    go_cut [0, 26] (fun v0 v26 wc' => wb = wc' ∧ (∃ q : Bool, v26 = .bool q) ∧ ∃ n : Nat, v0 = .int .i64 (n : Int) ∧ 1 ≤ n ∧ n ≤ 300)
    case first =>
      as_aux_lemma =>
        cases qq with
        | true =>
          go_wp2_with (fail)
          go_meet
          exact ⟨rfl, ⟨_, rfl⟩, 300, rfl, by decide, by decide⟩
        | false =>
          have hle : ¬ 300 < cap := fun h => by have := HQQ.out.2 h; cases this
          obtain ⟨n, rfl⟩ : ∃ n : Nat, cap = n := ⟨cap.toNat, by omega⟩
          go_wp2_with (fail)
          go_meet
          exact ⟨rfl, ⟨_, rfl⟩, n, rfl, by omega, by omega⟩
    case rest =>
      obtain ⟨rfl, ⟨q26, rfl⟩, n, rfl, hn1, hn3⟩ := hcut
      clear h0 h9 HQQ
      have HNU := Lib.hid (fun W => new_unit n hn1 (by omega) W)
      have HRN := Lib.hid (fun W => rnew_any n hn1 (by omega) W)
      have hn1I : ¬ (n : Int) < 1 := by omega
      have hn2I : ¬ 65536 < (n : Int) := by omega
      go_wp2_with (fail)
      refine (HNU.out _).mono ?_
      rintro e wc ⟨g, gd, gs, rfl, hu, hg, hgd, hgs, hbc⟩
      have HUc := Lib.hid hu
      have HBc := Lib.hid (HB.out.trans (hbc.mono HB.out.size))
      have HG : Hid (w.heap.size ≤ g ∧ w.heap.size ≤ gd ∧ w.heap.size ≤ gs) := Lib.hid (by have := HB.out.size; omega)
      clear hu hbc hg hgd hgs HNU
      go_wp2_with (fail)
      refine (HRN.out _).mono ?_
      rintro e wd ⟨rs, cs, rfl, how, hbd⟩
      have HUd := Lib.hid (HUc.out.below hbd)
      have HOd := Lib.hid (Wd.own_lower how (show w.heap.size ≤ wc.heap.size from HBc.out.size))
      have HBd := Lib.hid (HBc.out.trans (hbd.mono HBc.out.size))
      have HNE : Hid (rs ≠ gs) := Lib.hid (by have h1 := (how.lt rs rfl).1; have h2 := lt_of_heap HUc.out.s; omega)
      clear how hbd HUc HBc HRN HB
      go_upto_region 11 with (first
        | (refine wpList_store_row rfl 48 _ _ rfl wd.heap.size (ucells Dk.new (.slice (some ⟨rs, 0, none⟩) n cs)) rfl rfl 48 _ (heap_alloc_new wd _) (info48 rfl _) (by rw [usize rfl]; rfl) uone ?_))
      have hP := pl_start (z := ucells Dk.new (.slice none 0 0)) HUd.out HOd.out HBd.out HNE.out (by have h1 := HBd.out.size; have h2 := HG.out; omega)
      change Code.wp _ _ _ _ ((wd.alloc (.cells (ucells Dk.new (.slice none 0 0)) 48)).setRow wd.heap.size (ucells Dk.new (.slice (some ⟨rs, 0, none⟩) n cs)))
      generalize (wd.alloc (.cells (ucells Dk.new (.slice none 0 0)) 48)).setRow wd.heap.size (ucells Dk.new (.slice (some ⟨rs, 0, none⟩) n cs)) = we at *
      generalize wd.heap.size = b7 at *
      have HP := Lib.hid hP
      clear hP HUd HOd HBd HNE HG
      try simp only [Act.put]
      go_wp2_with (fail)
      go_loopg [8] (os.length) (fun q v8 wr => ∃ i : Nat, i ≤ os.length ∧ v8 = .int .i64 (i : Int) ∧ q = os.length - i ∧ ∃ d bs rs cs, d.fine ∧ Pl w wr g gd gs b7 n d d bs bs rs cs)
      case atStart => exact ⟨0, by omega, rfl, rfl, Dk.new, _, rs, cs, fine_new, HP.out⟩
      case round =>
        clear HP
        obtain ⟨i, hi, rfl, hq, d, bs, rs, cs, hfine, hp⟩ := hrel
        have HQ := Lib.hid hq
        have HF := Lib.hid hfine
        have HP := Lib.hid hp
        clear hq hfine hp
        by_cases hlt : i < os.length
        · as_aux_lemma =>
            obtain ⟨o, ho⟩ : ∃ o, os[i]? = some o := ⟨_, List.getElem?_eq_getElem hlt⟩
            obtain ⟨b, off, hA, hbl, hrg, hsc, hbnd⟩ := script_at HIN.out ho
            subst hA
            obtain ⟨lo, ini, c, dv⟩ := o
            simp only at hrg hsc hbnd
            obtain ⟨A0, n0, cp0, rfl⟩ : ∃ A n0 cp, dv = .slice A n0 cp := by
              obtain ⟨_, A, cp, h1, _⟩ := hsc; exact ⟨A, _, cp, h1⟩
            have HRW : Hid (wr.rangeAt b (off + i * 9) (r51 lo ini c (.slice A0 n0 cp0))) := Lib.hid (fun j v hv => (HP.out.bel.cell (p := ⟨b, off + i * 9 + j, none⟩) hbl).trans (hrg j v hv))
            have HSC := Lib.hid hsc
            have HBN := Lib.hid hbnd
            have hltI : (i : Int) < (os.length : Int) := by omega
            clear hrg hsc hbnd ho hbl
            go_upto_region 15 with (first
              | (refine wpList_load_mid rfl 51 _ rfl b (off + i * 9) rfl (r51 lo ini c (.slice A0 n0 cp0)) _ HRW.out Try.underlying51 rfl (by kernel_rfl) ?_)
              | (refine wpList_store_row rfl 51 _ _ rfl wr.heap.size (r51 lo ini c (.slice A0 n0 cp0)).toArray rfl rfl 51 _ (heap_alloc_new wr _) (by kernel_rfl) rfl (r51_one _ _ _ _ _ _) ?_))
            have hN := box_new wr z51 (r51 lo ini c (.slice A0 n0 cp0)).toArray 51
            change Code.wp _ _ _ _ ((wr.alloc (.cells z51 51)).setRow wr.heap.size (r51 lo ini c (.slice A0 n0 cp0)).toArray)
            have HX9 := Lib.hid hN.1
            have HP1 := Lib.hid (HP.out.below hN.2)
            have HL9 : Hid ((g < wr.heap.size ∧ gd < wr.heap.size ∧ gs < wr.heap.size ∧ b7 < wr.heap.size ∧ rs < wr.heap.size) ∧ w.heap.size ≤ wr.heap.size) := Lib.hid ⟨HP.out.lt, HP.out.bel.size⟩
            clear hN HRW HP hltI
            obtain ⟨wo, rfl⟩ : ∃ W : World, W = wr := ⟨_, rfl⟩
            generalize (wo.alloc (.cells z51 51)).setRow wo.heap.size (r51 lo ini c (.slice A0 n0 cp0)).toArray = w1 at *
            generalize wo.heap.size = b9 at *
            try simp only [Act.put]
            have k0 := (cell_of_heap HX9.out 0).trans (show _ = some (.bool lo) from rfl)
            have HI46 := Lib.hid (show (Try.prog.info? 46).map (·.size) = some d.vals.length from info41 HF.out.len)
            cases lo with
            | true =>
              as_aux_lemma =>
                go_wp2_with (fail)
                refine (lose_unit g gd gs d n bs _ HP1.out.u).mono ?_
                rintro e w2 ⟨rfl, hu2, ho2⟩
                have HP2 := Lib.hid (HP1.out.unit hu2 (Only.widen ho2))
                clear hu2 ho2 HP1 k0 HX9
                have HDK := Lib.hid HP2.out.dk
                go_wp2_with (first
                  | (refine wpList_load_mid rfl 46 _ rfl b7 0 (by rfl) d.vals _ HDK.out HU46.out rfl HI46.out ?_))
                refine (rLose_any d _ HF.out.len).mono ?_
                rintro e w3 ⟨rfl, hb3⟩
                have HP3 := Lib.hid (HP2.out.below hb3)
                have hll := lose_len d HF.out.len
                have HT : Hid (w3.there b7 0 d.lose.cells.size) := Lib.hid (by rw [cells_size hll]; exact HP3.out.there)
                have HSET : Hid (w3.setCells b7 0 d.lose.cells.toList = w3.setRow b7 (ucells d.lose (.slice (some ⟨rs, 0, none⟩) n cs))) := Lib.hid (HP3.out.desk hll)
                have HI47 := Lib.hid (show (Try.prog.info? 46).map (·.size) = some d.lose.cells.size from info41 hll)
                have HLL := Lib.hid hll
                clear hb3 HDK HP2 hll
                generalize hdl : d.lose = d2 at *
                go_upto_region 13 with (first
                  | (refine wpList_store_mid rfl 46 _ _ rfl b7 0 d2.cells (by rfl) (by rfl) HT.out HI47.out (one41 _) ?_))
                rw [HSET.out]
                have HP4 := Lib.hid (HP3.out.box (dr' := d2) (br' := bs) HLL.out HP3.out.ow HP3.out.ne)
                have HF2 : Hid (d2.fine) := Lib.hid (by rw [← hdl]; exact fine_lose HF.out)
                clear HSET HT HP3 hdl
                generalize World.setRow _ _ _ = w4 at *
                try simp only [Act.put]
                go_wp2_with (fail)
                go_roundg (os.length - (i + 1))
                case measure => have := HQ.out; omega
                case rel => exact ⟨i + 1, by omega, by go_num, rfl, d2, bs, rs, cs, HF2.out, HP4.out⟩
            | false =>
              as_aux_lemma =>
                have HR35 := Lib.hid (r51_cmd HX9.out)
                have k1 := (cell_of_heap HX9.out 1).trans (show _ = some (.int .i64 ini) from rfl)
                have HS1 := Lib.hid (HSC.out.below HP1.out.bel)
                go_wp2_with (first
                  | (refine wpList_load_mid rfl 35 _ rfl b9 2 (by rfl) [.int .i64 c.kind, .int .i64 c.lba, .int .i64 c.count, .slice A0 n0 cp0, .int .u64 c.key, .int .i64 c.res, .bool c.keep] _ HR35.out Try.underlying35 rfl (by kernel_rfl) ?_))
                refine (Wd.own_any c (.slice A0 n0 cp0) w1 HS1.out HBN.out).mono ?_
                rintro e w2 ⟨dvo, rfl, hown, hb2⟩
                obtain ⟨A5, c5, rfl, -, -⟩ := Wd.own_form hown
                have HOC2 := Lib.hid hown
                have HP2 := Lib.hid (HP1.out.below hb2)
                have HX92 := Lib.hid ((hb2.block b9 (lt_of_heap HX9.out)).trans HX9.out)
                have HL1 : Hid (b9 < w1.heap.size ∧ w1.heap.size ≤ w2.heap.size) := Lib.hid ⟨lt_of_heap HX9.out, hb2.size⟩
                clear hown hb2 HR35 k0 k1 HX9 HP1
                go_upto_region 19 with (first
                  | (refine wpList_store_row rfl 35 _ _ rfl w2.heap.size (Cmd.arr c (.slice A5 c.n c5)) rfl rfl 35 _ (heap_alloc_new w2 _) (by kernel_rfl) rfl (Wd.row_one _ _ _ _ _ _ _ _ _) ?_))
                have hN := box_new w2 z35 (Cmd.arr c (.slice A5 c.n c5)) 35
                change Code.wp _ _ _ _ ((w2.alloc (.cells z35 35)).setRow w2.heap.size (Cmd.arr c (.slice A5 c.n c5)))
                have HX10 := Lib.hid hN.1
                have HP3 := Lib.hid (HP2.out.below hN.2)
                have HX93 := Lib.hid ((hN.2.block b9 (lt_of_heap HX92.out)).trans HX92.out)
                have HOC3 := Lib.hid (Wd.own_below HOC2.out hN.2)
                have HL2 := Lib.hid hN.2.size
                clear hN HOC2 HP2 HX92
                generalize (w2.alloc (.cells z35 35)).setRow w2.heap.size (Cmd.arr c (.slice A5 c.n c5)) = w3 at *
                generalize w2.heap.size = b10 at *
                try simp only [Act.put]
                have k1 := (cell_of_heap HX93.out 1).trans (show _ = some (.int .i64 ini) from rfl)
                go_wp2_with (first
                  | (refine wpList_load_row_g rfl 35 _ rfl (b10) rfl 35 _ (0, 0) _ HX10.out Try.underlying35 rfl (by kernel_rfl) ?_))
                refine (do_any g gd gs d n bs ini c (.slice A5 c.n c5) w3 HP3.out.u (Wd.Own.secs HOC3.out)).mono ?_
                rintro e w4 ⟨dvr, rfl, hor, hu4, hf4⟩
                obtain ⟨A6, c6, rfl, -, -⟩ := Wd.own_form hor
                have HOR4 := Lib.hid hor
                have HP4 := Lib.hid (HP3.out.unit hu4 hf4)
                have hlt9 : gd < b9 ∧ gs < b9 ∧ b9 < b10 := by have := HL9.out; have := HL1.out; omega
                have HX94 := Lib.hid ((hf4.block b9 (lt_of_heap HX93.out) (by simp; omega)).trans HX93.out)
                have HX104 := Lib.hid ((hf4.block b10 (lt_of_heap HX10.out) (by simp; omega)).trans HX10.out)
                have HOC4 := Lib.hid (Wd.own_kept HOC3.out ⟨hf4.os, hf4.tape, hf4.output, hf4.size, hf4.block⟩ (fun k hk hm => by have := (HOC3.out.lt k hk).1; have := HL1.out; simp at hm; omega))
                have HL3 : Hid (∀ k, (Value.slice A5 c.n c5).ownBlock = some k → w1.heap.size ≤ k ∧ k < w3.heap.size) := Lib.hid (fun k hk => HOC3.out.lt k hk)
                have HL4 := Lib.hid hf4.size
                clear hor hu4 hf4 HOC3 HP3 HX93 HX10 k1
                generalize hst : doS d n bs ini c = st at *
                generalize hmm : doN d n ini c = m at *
                generalize hxx : doX d n bs ini c = xs at *
                generalize hbb : doB d n bs ini c = bs2 at *
                have HF2 := Lib.hid (fine_gate HF.out n ini c)
                generalize hdd : gateD d n ini c = d2 at *
                go_upto_region 20 with (first
                  | (refine wpList_store_row rfl 31 _ _ rfl w4.heap.size _ rfl rfl 31 _ (heap_alloc_new w4 _) (by kernel_rfl) rfl (rep_one3 _ _ _ _ _) ?_))
                have hN := box_new w4 (rep 0 0) #[.int .i64 st.1, .int .i64 st.2, .slice A6 m c6] 31
                change Code.wp _ _ _ _ ((w4.alloc (.cells (rep 0 0) 31)).setRow w4.heap.size #[.int .i64 st.1, .int .i64 st.2, .slice A6 m c6])
                have HX11 := Lib.hid hN.1
                have HP5 := Lib.hid (HP4.out.below hN.2)
                have HX95 := Lib.hid ((hN.2.block b9 (lt_of_heap HX94.out)).trans HX94.out)
                have HX105 := Lib.hid ((hN.2.block b10 (lt_of_heap HX104.out)).trans HX104.out)
                have HOC5 := Lib.hid (Wd.own_below HOC4.out hN.2)
                have HOR5 := Lib.hid (Wd.own_below HOR4.out hN.2)
                have HL5 := Lib.hid hN.2.size
                have HL6 : Hid (∀ k, (Value.slice A6 m c6).ownBlock = some k → w3.heap.size ≤ k ∧ k < w4.heap.size) := Lib.hid (fun k hk => HOR4.out.lt k hk)
                clear hN HOC4 HOR4 HP4 HX94 HX104
                generalize (w4.alloc (.cells (rep 0 0) 31)).setRow w4.heap.size #[.int .i64 st.1, .int .i64 st.2, .slice A6 m c6] = w5 at *
                generalize w4.heap.size = b11 at *
                try simp only [Act.put]
                have HRD := Lib.hid (rdo_any d n bs ini c (.slice A0 n0 cp0) (.slice (some ⟨rs, 0, none⟩) n cs) w5 HF.out (HSC.out.below HP5.out.bel) HP5.out.rd hn1 (by omega))
                rw [hst, hmm, hxx, hbb, hdd] at HRD
                have HR35 := Lib.hid (r51_cmd HX95.out)
                have k1 := (cell_of_heap HX95.out 1).trans (show _ = some (.int .i64 ini) from rfl)
                clear hst hmm hxx hbb hdd
                go_wp2_with (first
                  | (refine wpList_load_row_g rfl 48 _ rfl (b7) rfl 48 _ (0, 0) _ HP5.out.bx HU48.out rfl (info48 HF.out.len _) ?_)
                  | (refine wpList_load_mid rfl 35 _ rfl b9 2 (by rfl) [.int .i64 c.kind, .int .i64 c.lba, .int .i64 c.count, .slice A0 n0 cp0, .int .u64 c.key, .int .i64 c.res, .bool c.keep] _ HR35.out Try.underlying35 rfl (by kernel_rfl) ?_))
                refine (HRD.out).mono ?_
                rintro e w6 ⟨A7, k7, c7, A8, c8, rfl, hrd7, hvs, hb6⟩
                clear HRD HR35 k1
                have HP6 := Lib.hid (HP5.out.below hb6)
                obtain ⟨rs2, rfl, how2, hne2, hlt2⟩ : ∃ r, A8 = some ⟨r, 0, none⟩ ∧ w6.ownsRow w.heap.size 24 16 (.slice (some ⟨r, 0, none⟩) n c8) n (u8s bs2) ∧ r ≠ gs ∧ (r = rs ∨ w5.heap.size ≤ r) := by
                  rcases hvs with ⟨hv, hb⟩ | ho
                  · injection hv with e1 e2 e3
                    subst e1
                    subst e3
                    exact ⟨rs, rfl, by rw [hb]; exact HP6.out.ow, HP6.out.ne, .inl rfl⟩
                  · obtain ⟨r, rfl, hr, _⟩ := Wd.own_addr ho (by omega)
                    exact ⟨r, rfl, Wd.own_lower ho HP5.out.bel.size, by have := HP5.out.lt; omega, .inr hr⟩
                have HOW2 := Lib.hid how2
                have HNE2 := Lib.hid hne2
                have HLT2 := Lib.hid hlt2
                have HRD7 := Lib.hid hrd7
                have HX96 := Lib.hid ((hb6.block b9 (lt_of_heap HX95.out)).trans HX95.out)
                have HX106 := Lib.hid ((hb6.block b10 (lt_of_heap HX105.out)).trans HX105.out)
                have HX116 := Lib.hid ((hb6.block b11 (lt_of_heap HX11.out)).trans HX11.out)
                have HOC6 := Lib.hid (Wd.own_below HOC5.out hb6)
                have HOR6 := Lib.hid (Wd.own_below HOR5.out hb6)
                clear hvs hb6 how2 hne2 hlt2 hrd7 HP5 HX95 HX105 HX11 HOC5 HOR5
                go_upto_region 21 with (first
                  | (refine wpList_store_row rfl 31 _ _ rfl w6.heap.size #[.int .i64 st.1, .int .i64 st.2, .slice A7 k7 c7] rfl rfl 31 _ (Wd.two_first w6 _ _) (by kernel_rfl) rfl (rep_one3 _ _ _ _ _) ?_)
                  | (refine wpList_store_row rfl 48 _ _ rfl (w6.heap.size + 1) (ucells d2 (.slice (some ⟨rs2, 0, none⟩) n c8)) rfl rfl 48 _ (two_last' w6 _) (info48 HF2.out.len _) (by rw [usize HF2.out.len]; rfl) uone ?_))
                have hN := two_new w6 (rep 0 0) (ucells Dk.new (.slice none 0 0)) #[.int .i64 st.1, .int .i64 st.2, .slice A7 k7 c7] (ucells d2 (.slice (some ⟨rs2, 0, none⟩) n c8)) 31 48
                change Code.wp _ _ _ _ ((((w6.alloc (.cells (rep 0 0) 31)).alloc (.cells (ucells Dk.new (.slice none 0 0)) 48)).setRow w6.heap.size #[.int .i64 st.1, .int .i64 st.2, .slice A7 k7 c7]).setRow (w6.heap.size + 1) (ucells d2 (.slice (some ⟨rs2, 0, none⟩) n c8)))
                have HX12 := Lib.hid hN.1
                have HX13 := Lib.hid hN.2.1
                have HP7 := Lib.hid (HP6.out.below hN.2.2)
                have HX97 := Lib.hid ((hN.2.2.block b9 (lt_of_heap HX96.out)).trans HX96.out)
                have HX107 := Lib.hid ((hN.2.2.block b10 (lt_of_heap HX106.out)).trans HX106.out)
                have HX117 := Lib.hid ((hN.2.2.block b11 (lt_of_heap HX116.out)).trans HX116.out)
                have HOC7 := Lib.hid (Wd.own_below HOC6.out hN.2.2)
                have HOR7 := Lib.hid (Wd.own_below HOR6.out hN.2.2)
                have HOW7 := Lib.hid (Wd.own_below HOW2.out hN.2.2)
                have HRD8 := Lib.hid (HRD7.out.below hN.2.2)
                have HL7 : Hid (b7 < w6.heap.size) := Lib.hid HP6.out.lt.2.2.2.1
                clear hN HP6 HX96 HX106 HX116 HOC6 HOR6 HOW2 HRD7
                generalize (((w6.alloc (.cells (rep 0 0) 31)).alloc (.cells (ucells Dk.new (.slice none 0 0)) 48)).setRow w6.heap.size #[.int .i64 st.1, .int .i64 st.2, .slice A7 k7 c7]).setRow (w6.heap.size + 1) (ucells d2 (.slice (some ⟨rs2, 0, none⟩) n c8)) = w7 at *
                generalize w6.heap.size = b12 at *
                try simp only [Act.put]
                go_upto_region 22 with (first
                  | (refine wpList_load_row_g rfl 48 _ rfl (b12 + 1) rfl 48 _ (0, 0) _ HX13.out HU48.out rfl (info48 HF2.out.len _) ?_)
                  | (refine wpList_store_row rfl 48 _ _ rfl b7 (ucells d2 (.slice (some ⟨rs2, 0, none⟩) n c8)) rfl rfl 48 _ HP7.out.bx (info48 HF2.out.len _) (by rw [usize HF2.out.len, usize HF.out.len]) uone ?_))
                have HP8 := Lib.hid (HP7.out.box (dr' := d2) (br' := bs2) HF2.out.len HOW7.out HNE2.out)
                have ho8 := Only.setRow (w := w7) (g := b7) (ucells d2 (.slice (some ⟨rs2, 0, none⟩) n c8))
                have hap := HP7.out.apart
                have HX98 := Lib.hid ((ho8.block b9 (lt_of_heap HX97.out) (by have := HL9.out; simp; omega)).trans HX97.out)
                have HX108 := Lib.hid ((ho8.block b10 (lt_of_heap HX107.out) (by have := HL9.out; have := HL1.out; simp; omega)).trans HX107.out)
                have HX118 := Lib.hid ((ho8.block b11 (lt_of_heap HX117.out) (by have := blk_ne HX117.out HP7.out.bx (by decide); simpa using this)).trans HX117.out)
                have HX128 := Lib.hid ((ho8.block b12 (lt_of_heap HX12.out) (by have := blk_ne HX12.out HP7.out.bx (by decide); simpa using this)).trans HX12.out)
                have HOC8 := Lib.hid (Wd.own_kept HOC7.out (Wd.Only.setRow (w := w7) (g := b7) (ucells d2 (.slice (some ⟨rs2, 0, none⟩) n c8))) (fun k hk hm => Wd.own_blk HOC7.out HP7.out.bx (by decide) (by simp at hm; rw [← hm]; exact hk)))
                have HOR8 := Lib.hid (Wd.own_kept HOR7.out (Wd.Only.setRow (w := w7) (g := b7) (ucells d2 (.slice (some ⟨rs2, 0, none⟩) n c8))) (fun k hk hm => Wd.own_blk HOR7.out HP7.out.bx (by decide) (by simp at hm; rw [← hm]; exact hk)))
                have HRD9 := Lib.hid (rd_far (r := ucells d2 (.slice (some ⟨rs2, 0, none⟩) n c8)) HRD8.out HP7.out.bx ⟨_, _, _, rfl⟩)
                clear ho8 hap HP7 HX97 HX107 HX117 HX12 HX13 HOC7 HOR7 HOW7 HRD8
                generalize World.setRow _ _ _ = w8 at *
                try simp only [Act.put]
                have HSM := Lib.hid (same_reply st.1 st.2 m xs _ _ w8 (Rd.of_own HOR8.out) HRD9.out)
                go_wp2_with (first
                  | (refine wpList_load_row_g rfl 31 _ rfl (b11) rfl 31 _ (0, 0) _ HX118.out Try.underlying31 rfl (by kernel_rfl) ?_)
                  | (refine wpList_load_row_g rfl 31 _ rfl (b12) rfl 31 _ (0, 0) _ HX128.out Try.underlying31 rfl (by kernel_rfl) ?_))
                refine (HSM.out).mono ?_
                rintro e w9 ⟨rfl, hb9⟩
                have HP9 := Lib.hid (HP8.out.below hb9)
                have HX99 := Lib.hid ((hb9.block b9 (lt_of_heap HX98.out)).trans HX98.out)
                have HX109 := Lib.hid ((hb9.block b10 (lt_of_heap HX108.out)).trans HX108.out)
                have HX119 := Lib.hid ((hb9.block b11 (lt_of_heap HX118.out)).trans HX118.out)
                have HOC9 := Lib.hid (Wd.own_below HOC8.out hb9)
                have HOR9 := Lib.hid (Wd.own_below HOR8.out hb9)
                have HFC : Hid (∀ k, (Value.slice A5 c.n c5).ownBlock = some k → w.heap.size ≤ k ∧ k ≠ g ∧ k ≠ gd ∧ k ≠ gs ∧ k ≠ b7 ∧ k ≠ rs2) := Lib.hid (fun k hk => by
                  have h1 := HL3.out k hk
                  have h2 := HL9.out
                  have h3 := HL1.out
                  have h4 := HLT2.out
                  have h5 := HL4.out
                  have h6 := HL5.out
                  omega)
                have HFR : Hid (∀ k, (Value.slice A6 m c6).ownBlock = some k → (w.heap.size ≤ k ∧ k ≠ g ∧ k ≠ gd ∧ k ≠ gs ∧ k ≠ b7 ∧ k ≠ rs2) ∧ ∀ j, (Value.slice A5 c.n c5).ownBlock = some j → k ≠ j) := Lib.hid (fun k hk => by
                  have h1 := HL6.out k hk
                  have h2 := HL9.out
                  have h3 := HL1.out
                  have h4 := HLT2.out
                  have h5 := HL4.out
                  have h6 := HL5.out
                  have h7 := HL2.out
                  exact ⟨by omega, fun j hj => by have := HL3.out j hj; omega⟩)
                clear hb9 HP8 HX98 HX108 HX118 HX128 HOC8 HOR8 HRD9 HSM HL1 HL2 HL3 HL4 HL5 HL6 HL7 HL9 hlt9 HLT2 HNE2
                have hmB : m ≤ 9223372036854775807 := by
                  obtain ⟨_, _, hv, h1, h2⟩ := Wd.own_form HOR9.out
                  unfold maxLen at h2
                  omega
                have hcB : c.n ≤ 9223372036854775807 := by have := HBN.out; omega
                obtain ⟨S5, hS5⟩ : ∃ S, S = (Value.slice A5 c.n c5).ownBlock.toList := ⟨_, rfl⟩
                have HS5 := Lib.hid hS5
                clear hS5
                go_wp2_with (fail)
                go_loopg [14] (c.n) (fun q v14 wr => ∃ k : Nat, k ≤ c.n ∧ v14 = .int .i64 (k : Int) ∧ q = c.n - k ∧ Only S5 w9 wr ∧ ∃ L : List Int, wr.ownsRow w1.heap.size 24 16 (.slice A5 c.n c5) c.n (u8s L) ∧ ∀ j, k ≤ j → j < c.n → sec L j = sec c.bs j)
                case atStart => exact ⟨0, by omega, rfl, rfl, Only.refl _ _, c.bs, HOC9.out, fun _ _ _ => rfl⟩
                case round =>
                  obtain ⟨k, hk, rfl, hq, hon, L, hown, hL⟩ := hrel
                  obtain ⟨wp, rfl⟩ : ∃ W : World, W = wr := ⟨_, rfl⟩
                  have HQ2 := Lib.hid hq
                  have HON := Lib.hid hon
                  have HOW := Lib.hid hown
                  have HLL := Lib.hid hL
                  have HX9p := Lib.hid ((hon.block b9 (lt_of_heap HX99.out) (by rw [HS5.out]; exact own_nin HOC9.out HX99.out (by decide))).trans HX99.out)
                  have HX10p := Lib.hid ((hon.block b10 (lt_of_heap HX109.out) (by rw [HS5.out]; exact own_nin HOC9.out HX109.out (by decide))).trans HX109.out)
                  have HX11p := Lib.hid ((hon.block b11 (lt_of_heap HX119.out) (by rw [HS5.out]; exact own_nin HOC9.out HX119.out (by decide))).trans HX119.out)
                  have HPp := Lib.hid (HP9.out.far hon (fun k hk => HFC.out k (by rw [HS5.out] at hk; simpa using hk)))
                  have HORp := Lib.hid (Wd.own_kept HOR9.out ⟨hon.os, hon.tape, hon.output, hon.size, hon.block⟩ (fun k hk hm => (HFR.out k hk).2 k (by rw [HS5.out] at hm; simpa using hm) rfl))
                  have kk3 := (cell_of_heap HX10p.out 3).trans (show _ = some (.slice A5 c.n c5) from rfl)
                  clear hq hon hown hL
                  by_cases hkc : k < c.n
                  · as_aux_lemma =>
                      obtain ⟨r, hA5, hrl, -⟩ := Wd.own_addr HOW.out (by omega)
                      obtain ⟨hn0, b', off', hA0, -, hsrc⟩ := secs_src (HSC.out.below HPp.out.bel) (by omega)
                      have kk5 := (cell_of_heap HX9p.out 5).trans (show _ = some (.slice A0 n0 cp0) from rfl)
                      subst hA5
                      subst hA0
                      subst hn0
                      have hkI : (k : Int) < (c.n : Int) := by omega
                      have hcl := secs_len HSC.out
                      have hsl := sec_len hcl hkc
                      have hLk := HLL.out k (Nat.le_refl _) hkc
                      have hLl : L.length = c.n * 16 := by have := HOW.out.1; rwa [u8s_len] at this
                      have hr1 := own_sec HOW.out hkc
                      rw [hLk] at hr1
                      have HR1 := Lib.hid hr1
                      have HR2 : Hid (wp.rangeAt b' (off' + k * 16) (u8s (sec c.bs k))) := Lib.hid (fun j v hv => by
                        rw [Nat.add_assoc]
                        refine hsrc (k * 16 + j) v ?_
                        have hj : j < 16 := by have := (List.getElem?_eq_some_iff.1 hv).1; rw [u8s_len] at this; have := sec_le c.bs k; omega
                        unfold u8s at hv ⊢
                        rw [List.getElem?_map, sec_get _ _ _ hj] at hv
                        rw [List.getElem?_map]
                        exact hv)
                      have HI1 : Hid ((Try.prog.info? 24).map (·.size) = some (u8s (sec c.bs k)).length) := Lib.hid (by rw [u8s_len, hsl]; exact info24)
                      have HE := Lib.hid (fun W => (Wd.eq_sec hsl hsl W).trans (by rw [decide_eq_true rfl]))
                      have heg := Wd.eqGuard41
                      have hput := own_put (World.ownsRow.drew HOW.out) (o := k * 16) (xs := j123) (by rw [hLl]; show k * 16 + 16 ≤ _; omega)
                      have HT := Lib.hid hput.1
                      have HO3 := Lib.hid hput.2.1
                      have HN3 : Hid (Only S5 w9 (wp.drew.setCells r (k * 16) (u8s j123))) := Lib.hid (HON.out.drew_.trans hput.2.2 (fun x hx => by left; rw [HS5.out]; simpa [Value.ownBlock] using hx))
                      have HL3 : Hid (∀ j, k + 1 ≤ j → j < c.n → sec (splice L (k * 16) j123) j = sec c.bs j) := Lib.hid (fun j h1 h2 => by
                        rw [sec_splice _ _ k 1 j rfl (by rw [hLl]; omega), if_neg (by omega)]
                        exact HLL.out j (by omega) h2)
                      clear hput hsl hLk hr1 hsrc hcl HPp HORp HX11p
                      go_upto_region 27 with (fail)
                      refine wp_region_still_lit (by kernel_rfl) (by kernel_rfl) ?_
                      still_step
                      still_step
                      still_step
                      still_step
                      refine wpStill_run rfl (exec_load_mid 24 _ rfl r (k * 16) (by rfl) _ _ HR1.out Try.underlying24 rfl HI1.out) ?_
                      try simp only [Act.put, List.getElem_toArray, List.getElem_cons_succ, List.getElem_cons_zero, List.setIfInBounds_toArray, List.set_cons_zero, List.set_cons_succ]
                      still_step
                      still_step
                      still_step
                      still_step
                      still_step
                      refine wpStill_run rfl (exec_load_mid 24 _ rfl b' (off' + k * 16) (by rfl) _ _ HR2.out Try.underlying24 rfl HI1.out) ?_
                      try simp only [Act.put, List.getElem_toArray, List.getElem_cons_succ, List.getElem_cons_zero, List.setIfInBounds_toArray, List.set_cons_zero, List.set_cons_succ]
                      have q := HE.out wp.drew
                      still_step
                      clear q kk3
                      refine wpStill_nil ?_
                      have HX10q : Hid (wp.drew.heap[b10]? = _) := HX10p
                      generalize hwq : ({ heap := wp.heap, tape := wp.tape, drawn := wp.drawn + 1, os := wp.os, output := wp.output } : World) = wq2
                      have e7 : wp.drew = wq2 := hwq
                      rw [e7] at HX10q HT HO3 HN3
                      clear hwq e7 HR1 HR2 HE heg HI1 kk5
                      have kk3 := (cell_of_heap HX10q.out 3).trans (show _ = some (.slice (some ⟨r, 0, none⟩) c.n c5) from rfl)
                      go_upto_region 26 with (first | (refine wpList_store_mid rfl 24 _ _ rfl r (k * 16) (u8s j123).toArray (by rfl) (by rfl) HT.out info24 (u8s_all _) ?_))
                      change Code.wp _ _ _ _ (wq2.setCells r (k * 16) (u8s j123))
                      clear kk3 HT HX10q
                      generalize wq2.setCells r (k * 16) (u8s j123) = wz at *
                      try simp only [Act.put]
                      go_wp2_with (fail)
                      go_roundg (c.n - (k + 1))
                      case measure => have := HQ2.out; omega
                      case rel => exact ⟨k + 1, by omega, by go_num, rfl, HN3.out, _, HO3.out, HL3.out⟩
                  · obtain rfl : k = c.n := by omega
                    as_aux_lemma =>
                      clear HLL HX9p HX10p HOW HON HP9 HX99 HX109 HX119 HOC9 HOR9
                      obtain ⟨S6, hS6⟩ : ∃ S, S = (Value.slice A6 m c6).ownBlock.toList := ⟨_, rfl⟩
                      have HS6 := Lib.hid hS6
                      clear hS6
                      go_wp2_with (fail)
                      clear kk3
                      go_loopg [15] (m) (fun q v15 wr => ∃ k : Nat, k ≤ m ∧ v15 = .int .i64 (k : Int) ∧ q = m - k ∧ Only S6 wp wr ∧ ∃ L : List Int, wr.ownsRow w3.heap.size 24 16 (.slice A6 m c6) m (u8s L))
                      case atStart => exact ⟨0, by omega, rfl, rfl, Only.refl _ _, xs, HORp.out⟩
                      case round =>
                        obtain ⟨k, hk, rfl, hq, hon, L, hown⟩ := hrel
                        obtain ⟨wt, rfl⟩ : ∃ W : World, W = wr := ⟨_, rfl⟩
                        have HQ3 := Lib.hid hq
                        have HON := Lib.hid hon
                        have HOW := Lib.hid hown
                        have HX11t := Lib.hid ((hon.block b11 (lt_of_heap HX11p.out) (by rw [HS6.out]; exact own_nin HORp.out HX11p.out (by decide))).trans HX11p.out)
                        have HPt := Lib.hid (HPp.out.far hon (fun k hk => (HFR.out k (by rw [HS6.out] at hk; simpa using hk)).1))
                        have kk2 := (cell_of_heap HX11t.out 2).trans (show _ = some (.slice A6 m c6) from rfl)
                        clear hq hon hown
                        by_cases hkm : k < m
                        · as_aux_lemma =>
                            obtain ⟨r, hA6, hrl, -⟩ := Wd.own_addr HOW.out (by omega)
                            subst hA6
                            have hkI : (k : Int) < (m : Int) := by omega
                            have hLl : L.length = m * 16 := by have := HOW.out.1; rwa [u8s_len] at this
                            have hput := own_put HOW.out (o := k * 16) (xs := j321) (by rw [hLl]; show k * 16 + 16 ≤ _; omega)
                            have HT := Lib.hid hput.1
                            have HO3 := Lib.hid hput.2.1
                            have HN3 : Hid (Only S6 wp (wt.setCells r (k * 16) (u8s j321))) := Lib.hid (HON.out.trans hput.2.2 (fun x hx => by left; rw [HS6.out]; simpa [Value.ownBlock] using hx))
                            clear hput HPt HX11t
                            go_upto_region 32 with (first | (refine wpList_store_mid rfl 24 _ _ rfl r (k * 16) (u8s j321).toArray (by rfl) (by rfl) HT.out info24 (u8s_all _) ?_))
                            change Code.wp _ _ _ _ (wt.setCells r (k * 16) (u8s j321))
                            clear kk2 HT
                            generalize wt.setCells r (k * 16) (u8s j321) = wz at *
                            try simp only [Act.put]
                            go_wp2_with (fail)
                            go_roundg (m - (k + 1))
                            case measure => have := HQ3.out; omega
                            case rel => exact ⟨k + 1, by omega, by go_num, rfl, HN3.out, _, HO3.out⟩
                        · obtain rfl : k = m := by omega
                          as_aux_lemma =>
                            clear HX11t HOW HON
                            go_wp2_with (fail)
                            go_roundg (os.length - (i + 1))
                            case measure => have := HQ.out; omega
                            case rel => exact ⟨i + 1, by omega, by go_num, rfl, d2, bs2, rs2, c8, HF2.out, HPt.out⟩
        · obtain rfl : i = os.length := by omega
          as_aux_lemma =>
            obtain ⟨wq, rfl⟩ : ∃ W : World, W = wr := ⟨_, rfl⟩
            go_wp2_with (fail)
            go_loopg [16] (n + 2) (fun q v16 w2 => ∃ j : Nat, j ≤ n + 2 ∧ v16 = .int .i64 ((j : Int) - 1) ∧ q = n + 2 - j ∧ Below wq.heap.size wq w2)
            case atStart => exact ⟨0, by omega, rfl, rfl, Below.refl _ _⟩
            case round =>
              obtain ⟨j, hj, rfl, hq2, hb2⟩ := hrel
              have HQ2 := Lib.hid hq2
              have HB2 := Lib.hid hb2
              have HP2 := Lib.hid (HP.out.below hb2)
              clear hq2 hb2
              by_cases j0 : j = 0
              · subst j0
                as_aux_lemma =>
                  simp only [Int.natCast_zero, Int.zero_sub]
                  have hx1 : (-1 : Int) ≤ (n : Int) := by omega
                  have HSO := Lib.hid (fun W h => sector_out g gd gs d n (-1) bs W h (.inl (by decide)))
                  go_wp2_with (fail)
                  refine (HSO.out _ HP2.out.u).mono ?_
                  rintro e w3 ⟨rfl, hu3⟩
                  have HU3 := Lib.hid hu3
                  clear hu3
                  unfold sval
                  go_upto_region 38 with (first
                    | (refine wpList_store_row rfl 24 _ _ rfl w3.heap.size _ rfl rfl 24 _ (heap_alloc_new w3 _) info24 rfl (u8s_all _) ?_))
                  have hS := So.start w3 zsec
                  have HY := Lib.hid hS.box
                  have HPs := Lib.hid ((HP2.out.below HU3.out).below hS.bel)
                  have HB3 := Lib.hid (HB2.out.trans ((HU3.out.trans (hS.bel.mono HU3.out.size)).mono HB2.out.size))
                  change Code.wp _ _ _ _ ((w3.alloc (.cells zlit 24)).setRow w3.heap.size (u8s zsec).toArray)
                  clear hS HU3
                  generalize (w3.alloc (.cells zlit 24)).setRow w3.heap.size (u8s zsec).toArray = w4 at *
                  generalize w3.heap.size = b17 at *
                  try simp only [Act.put]
                  have q : (Op.equalIn 10000 24 (.agg (u8s zsec).toArray) (.agg #[Value.int .u8 0, .int .u8 0, .int .u8 0, .int .u8 0, .int .u8 0, .int .u8 0, .int .u8 0, .int .u8 0, .int .u8 0, .int .u8 0, .int .u8 0, .int .u8 0, .int .u8 0, .int .u8 0, .int .u8 0, .int .u8 0])).run Try.prog w4 = .ok true w4 := (Wd.eq_sec (xs := zsec) (ys := zsec) rfl rfl w4).trans (by rw [decide_eq_true rfl])
                  have heg := Wd.eqGuard41
                  go_wp2_with (first
                    | (refine wpList_load_row_z rfl 24 _ rfl b17 rfl 24 _ (0, 0) _ HY.out Try.underlying24 rfl info24 ?_))
                  go_roundg (n + 2 - 1)
                  case measure => have := HQ2.out; omega
                  case rel => exact ⟨1, by omega, by first | rfl | go_num, rfl, HB3.out⟩
              obtain ⟨k, rfl⟩ : ∃ k, j = k + 1 := ⟨j - 1, by omega⟩
              have hjk : ((k + 1 : Nat) : Int) - 1 = (k : Int) := by omega
              rw [hjk]
              clear hjk j0
              by_cases jn : k = n
              · subst jn
                as_aux_lemma =>
                  have hx1 : (k : Int) ≤ (k : Int) := Int.le_refl _
                  have hx2 : ¬ (k : Int) < 0 := by omega
                  have hx3 : ((k : Int) == (k : Int)) = true := beq_self_eq_true _
                  have HSO := Lib.hid (fun W h => sector_out g gd gs d k ((k : Int)) bs W h (.inr (Int.le_refl _)))
                  go_wp2_with (fail)
                  refine (HSO.out _ HP2.out.u).mono ?_
                  rintro e w3 ⟨rfl, hu3⟩
                  have HU3 := Lib.hid hu3
                  clear hu3
                  unfold sval
                  go_upto_region 38 with (first
                    | (refine wpList_store_row rfl 24 _ _ rfl w3.heap.size _ rfl rfl 24 _ (heap_alloc_new w3 _) info24 rfl (u8s_all _) ?_))
                  have hS := So.start w3 zsec
                  have HY := Lib.hid hS.box
                  have HPs := Lib.hid ((HP2.out.below HU3.out).below hS.bel)
                  have HB3 := Lib.hid (HB2.out.trans ((HU3.out.trans (hS.bel.mono HU3.out.size)).mono HB2.out.size))
                  change Code.wp _ _ _ _ ((w3.alloc (.cells zlit 24)).setRow w3.heap.size (u8s zsec).toArray)
                  clear hS HU3
                  generalize (w3.alloc (.cells zlit 24)).setRow w3.heap.size (u8s zsec).toArray = w4 at *
                  generalize w3.heap.size = b17 at *
                  try simp only [Act.put]
                  have q : (Op.equalIn 10000 24 (.agg (u8s zsec).toArray) (.agg #[Value.int .u8 0, .int .u8 0, .int .u8 0, .int .u8 0, .int .u8 0, .int .u8 0, .int .u8 0, .int .u8 0, .int .u8 0, .int .u8 0, .int .u8 0, .int .u8 0, .int .u8 0, .int .u8 0, .int .u8 0, .int .u8 0])).run Try.prog w4 = .ok true w4 := (Wd.eq_sec (xs := zsec) (ys := zsec) rfl rfl w4).trans (by rw [decide_eq_true rfl])
                  have heg := Wd.eqGuard41
                  go_wp2_with (first
                    | (refine wpList_load_row_z rfl 24 _ rfl b17 rfl 24 _ (0, 0) _ HY.out Try.underlying24 rfl info24 ?_))
                  go_roundg (k + 2 - (k + 1 + 1))
                  case measure => have := HQ2.out; omega
                  case rel => exact ⟨k + 1 + 1, by omega, by first | go_num | (congr 1; omega), rfl, HB3.out⟩
              by_cases jl : k < n
              · as_aux_lemma =>
                  have hx1 : (k : Int) ≤ (n : Int) := by omega
                  have hx2 : ¬ (k : Int) < 0 := by omega
                  have hx3 : ((k : Int) == (n : Int)) = false := bF (by omega)
                  have hx4 : (k : Int) < (n : Int) := by omega
                  have hsl := sec_len HP2.out.u.len jl
                  have HI := Lib.hid (show (Try.prog.info? 24).map (·.size) = some (u8s (sec bs k)).toArray.size from by simp only [List.size_toArray]; rw [u8s_len, hsl]; exact info24)
                  have HI1 := Lib.hid (show (Try.prog.info? 24).map (·.size) = some (u8s (sec bs k)).length from by rw [u8s_len, hsl]; exact info24)
                  have HSZ : Hid (zlit.size = (u8s (sec bs k)).toArray.size) := Lib.hid (by simp only [List.size_toArray]; rw [u8s_len, hsl]; rfl)
                  have HE := Lib.hid (fun W => (Wd.eq_sec hsl hsl W).trans (by rw [decide_eq_true rfl]))
                  clear hsl
                  go_wp2_with (fail)
                  refine (sector_in g gd gs d n k bs _ HP2.out.u jl).mono ?_
                  rintro e w3 ⟨rfl, hu3⟩
                  have HU3 := Lib.hid hu3
                  clear hu3
                  unfold sval
                  go_upto_region 38 with (first
                    | (refine wpList_store_row rfl 24 _ _ rfl w3.heap.size _ rfl rfl 24 _ (heap_alloc_new w3 _) HI.out HSZ.out (u8s_all _) ?_))
                  have hS := So.start w3 (sec bs k)
                  have HY := Lib.hid hS.box
                  have HPs := Lib.hid ((HP2.out.below HU3.out).below hS.bel)
                  have HB3 := Lib.hid (HB2.out.trans ((HU3.out.trans (hS.bel.mono HU3.out.size)).mono HB2.out.size))
                  change Code.wp _ _ _ _ ((w3.alloc (.cells zlit 24)).setRow w3.heap.size (u8s (sec bs k)).toArray)
                  clear hS HU3
                  generalize (w3.alloc (.cells zlit 24)).setRow w3.heap.size (u8s (sec bs k)).toArray = w4 at *
                  generalize w3.heap.size = b17 at *
                  try simp only [Act.put]
                  have HRS := Lib.hid (own_sec HPs.out.ow jl)
                  have k19 := HPs.out.c19
                  have heg := Wd.eqGuard41
                  go_upto_region 41 with (fail)
                  refine wp_region_still_lit (by kernel_rfl) (by kernel_rfl) ?_
                  still_step
                  still_step
                  still_step
                  refine wpStill_run_w rfl (exec_load_row 24 _ rfl b17 rfl 24 _ (0, 0) _ HY.out Try.underlying24 rfl HI.out) ?_
                  try simp only [Act.put, List.getElem_toArray, List.getElem_cons_succ, List.getElem_cons_zero, List.setIfInBounds_toArray, List.set_cons_zero, List.set_cons_succ]
                  still_step
                  still_step
                  still_step
                  still_step
                  refine wpStill_run_w rfl (exec_load_mid 24 _ rfl rs (k * 16) (by rfl) _ _ HRS.out Try.underlying24 rfl HI1.out) ?_
                  try simp only [Act.put, List.getElem_toArray, List.getElem_cons_succ, List.getElem_cons_zero, List.setIfInBounds_toArray, List.set_cons_zero, List.set_cons_succ]
                  have q := HE.out w4.drew
                  still_step
                  clear q
                  still_step
                  refine wpStill_nil ?_
                  have HB4 : Hid (Below wq.heap.size wq { heap := w4.heap, tape := w4.tape, drawn := w4.drawn + 1, os := w4.os, output := w4.output }) := Lib.hid (Wd.bdrew HB3.out)
                  generalize ({ heap := w4.heap, tape := w4.tape, drawn := w4.drawn + 1, os := w4.os, output := w4.output } : World) = w5 at *
                  clear HRS k19 HE heg HI HI1 HSZ HY HPs HB3
                  go_wp2_with (fail)
                  go_roundg (n + 2 - (k + 1 + 1))
                  case measure => have := HQ2.out; omega
                  case rel => exact ⟨k + 1 + 1, by omega, by first | go_num | (congr 1; omega), rfl, HB4.out⟩
              · obtain rfl : k = n + 1 := by omega
                as_aux_lemma =>
                  have hx1 : ¬ (((n + 1 : Nat) : Int) ≤ (n : Int)) := by omega
                  generalize hz : ((n + 1 : Nat) : Int) = z at *
                  go_wp2_with (fail)
                  go_ret
                  exact ⟨rfl, HP.out.bel.trans (HB2.out.mono HP.out.bel.size)⟩
end Go.Proofs.Ytjpdjhmajjbgmaa.Md
