/- Encode, walked. -/
import Derived.Test.YtlkibkemmmppcaaCmd
namespace Go.Proofs.Ytlkibkemmmppcaa.Wd
open Go.RowKit
set_option linter.unusedVariables false
set_option linter.unusedSimpArgs false
def be4 (x : Int) : List Int := [x / 16777216 % 256, x / 65536 % 256, x / 256 % 256, x % 256]
def be8 (x : Int) : List Int := [x / 72057594037927936 % 256, x / 281474976710656 % 256, x / 1099511627776 % 256, x / 4294967296 % 256, x / 16777216 % 256, x / 65536 % 256, x / 256 % 256, x % 256]
def Cmd.ok (c : Cmd) : Prop := 1 ≤ c.kind ∧ c.kind ≤ 11 ∧ 0 ≤ c.lba ∧ c.lba ≤ 2147483647 ∧ 0 ≤ c.count ∧ c.count ≤ 65535 ∧ 0 ≤ c.res ∧ c.res ≤ 65535 ∧ c.n ≤ 8
instance (c : Cmd) : Decidable c.ok := by unfold Cmd.ok; infer_instance
def Cmd.head (c : Cmd) : List Int := [c.kind % 256, if c.keep then 1 else 0, c.res / 256 % 256, c.res % 256]
def Cmd.mid (c : Cmd) : List Int := [c.count / 256 % 256, c.count % 256, 0, (c.n : Int)]
def Cmd.bytes (c : Cmd) : List Int := c.head ++ be4 c.lba ++ c.mid ++ be8 c.key ++ c.bs
theorem info5 : (Try.prog.info? 5).map (fun i => (i.zero, i.size, i.bytes)) = some (some (.int .u8 0), 1, 1) := by kernel_rfl
theorem cat_bytes (w : World) (base : Nat) (v : Value) (n : Nat) (xs : List Value) (u : Value) (m : Nat) (ys : List Value) (hown : w.ownsRow base 5 1 v n xs) (hu : Rd w u m 1 ys) (h1 : ∀ y ∈ ys, y.oneCell' = true) (hl : n + m ≤ 140737488355328) (hbase : base ≤ w.heap.size) :
    ∃ v' w', (Builtin.append_ #[26, 26] 26 #[v, u]).run Try.prog w = .ok v' w' ∧ w'.ownsRow base 5 1 v' (n + m) (xs ++ ys) ∧ w.grownBy w' v.ownBlock ∧ (v'.ownBlock = v.ownBlock ∨ v'.ownBlock = some w.heap.size) := by
  obtain ⟨i0, hi0, hz0, hz1, hz2⟩ := info_parts info5
  exact run_cat w base 26 5 i0 _ 1 1 Try.underlying26 hi0 hz0 hz1 hz2 rfl (by omega) v n xs u m ys hown hu h1 (by omega) (by unfold maxLen; omega) hbase
theorem own_ne {w : World} {b1 b2 : Nat} {e1 e2 : TypeId} {s1 s2 : Nat} {v1 v2 : Value} {n1 n2 : Nat} {x1 x2 : List Value} (h1 : w.ownsRow b1 e1 s1 v1 n1 x1) (h2 : w.ownsRow b2 e2 s2 v2 n2 x2) (hne : e1 ≠ e2) : ∀ k, v1.ownBlock = some k → v2.ownBlock ≠ some k := by
  intro k hk1 hk2
  rcases h2.2 with ⟨rfl, _⟩ | ⟨g2, c2, cur2, rfl, _, hh2, _⟩
  · simp [Value.ownBlock] at hk2
  simp only [Value.ownBlock, Option.some.injEq] at hk2
  subst hk2
  exact own_blk h1 hh2 hne hk1
theorem Rd.of_block {w : World} {g : Nat} {bs : List Int} {t : TypeId} {n : Nat} (h : w.heap[g]? = some (.cells (u8s bs).toArray t (0, 0))) (hn : (u8s bs).toArray.size = n) (hm : n ≤ maxLen) : Rd w (.slice (some ⟨g, 0, none⟩) n n) n 1 (u8s bs) := by
  have hl : (u8s bs).length = n := by simpa using hn
  exact ⟨by omega, some ⟨g, 0, none⟩, n, rfl, Nat.le_refl _, hm, (fun h => by cases h), fun _ => ⟨g, 0, rfl, lt_of_heap h, fun j u hu => by rw [Nat.zero_add, cell_of_heap h]; simpa using hu⟩⟩
/-- While bytes are laid behind one another: the row, the command's box, its sectors. -/
structure En (w0 wr : World) (box : Array Value) (dv : Value) (n : Nat) (bs : List Int) (v : Value) (L : List Int) : Prop where
  row : wr.ownsRow (w0.heap.size + 1) 5 1 v L.length (u8s L)
  box : wr.heap[w0.heap.size]? = some (.cells box 25 (0, 0))
  secs : wr.ownsRow (w0.heap.size + 1) 41 16 dv n (u8s bs)
  below : Below w0.heap.size w0 wr
theorem En.kept {w0 wr w' : World} {box : Array Value} {dv v : Value} {n : Nat} {bs L : List Int} (h : En w0 wr box dv n bs v L) (hb : Below wr.heap.size wr w') : En w0 w' box dv n bs v L :=
  ⟨own_below h.row hb, (hb.block _ (lt_of_heap h.box)).trans h.box, own_below h.secs hb, h.below.trans (hb.mono h.below.size)⟩
theorem En.cat {w0 wr : World} {box : Array Value} {dv v : Value} {n : Nat} {bs L : List Int} (h : En w0 wr box dv n bs v L) (u : Value) (m : Nat) (news : List Int) (hu : Rd wr u m 1 (u8s news)) (hl : L.length + m ≤ 100000) :
    ∃ v' w', (Builtin.append_ #[26, 26] 26 #[v, u]).run Try.prog wr = .ok v' w' ∧ En w0 w' box dv n bs v' (L ++ news) := by
  have hlt := lt_of_heap h.box
  obtain ⟨v', w', hr, ho, hg, hb⟩ := cat_bytes wr (w0.heap.size + 1) v L.length (u8s L) u m (u8s news) h.row hu (u8s_one _) (by omega) (by omega)
  have hO := Only.grown hg
  have hm : m = news.length := by have := hu.len; unfold u8s at this; simp at this; omega
  refine ⟨v', w', hr, ?_, ?_, ?_, ?_⟩
  · have e : u8s (L ++ news) = u8s L ++ u8s news := by unfold u8s; simp
    rw [e, List.length_append, ← hm]; exact ho
  · rw [hO.block _ hlt (fun hm => by rw [Option.mem_toList] at hm; exact own_blk h.row h.box (by decide) hm)]; exact h.box
  · exact own_kept h.secs hO (fun k hk hm => by rw [Option.mem_toList] at hm; exact own_ne h.secs h.row (by decide) k hk hm)
  · exact Only.below h.below hO h.below.size (fun x hx => by rw [Option.mem_toList] at hx; have := (h.row.lt x hx).1; omega)
theorem En.app {w0 wr : World} {box : Array Value} {dv v : Value} {n : Nat} {bs L : List Int} (h : En w0 wr box dv n bs v L) (news : List Int) (m : Nat) (hm : news.length = m) (hl : L.length + m ≤ 90000) :
    ∃ v' w', (Builtin.append_ #[26, 26] 26 #[v, .slice (some ⟨wr.heap.size, 0, none⟩) m m]).run Try.prog (wr.alloc (.cells (u8s news).toArray 5)) = .ok v' w' ∧ En w0 w' box dv n bs v' (L ++ news) := by
  subst hm
  refine (h.kept (balloc wr _)).cat _ news.length news (Rd.of_own (e := 5) (base := 0) ?_) (by omega)
  have := World.ownsRow_lit (base := 0) (e := 5) (size := 1) wr (u8s news).toArray news.length (Nat.zero_le _) (by unfold maxLen; omega) (by simp [u8s])
  simpa using this
theorem row_cells {w : World} {b : Nat} {k l c : Int} {v : Value} {y r : Int} {p : Bool} (h : w.heap[b]? = some (.cells #[.int .i64 k, .int .i64 l, .int .i64 c, v, .int .u64 y, .int .i64 r, .bool p] 25 (0, 0))) :
    w.cell? ⟨b, 0, none⟩ = some (.int .i64 k) ∧ w.cell? ⟨b, 1, none⟩ = some (.int .i64 l) ∧ w.cell? ⟨b, 2, none⟩ = some (.int .i64 c) ∧ w.cell? ⟨b, 3, none⟩ = some v ∧ w.cell? ⟨b, 4, none⟩ = some (.int .u64 y) ∧ w.cell? ⟨b, 5, none⟩ = some (.int .i64 r) ∧ w.cell? ⟨b, 6, none⟩ = some (.bool p) := by
  refine ⟨?_, ?_, ?_, ?_, ?_, ?_, ?_⟩ <;> (rw [cell_of_heap h]; rfl)
set_option maxRecDepth 100000 in
set_option maxHeartbeats 8000000 in
theorem enc_ok (c : Cmd) (dv : Value) (w : World) (hs : Secs w dv c) (hl : c.n * 16 ≤ 140737488355328) (hok : c.plain.ok) :
    Calls Try.prog 8 #[c.val dv] w fun e w' => ∃ v, e = .returned (.tuple #[v, .int .i64 0]) ∧ w'.ownsRow w.heap.size 5 1 v c.plain.bytes.length (u8s c.plain.bytes) ∧ Below w.heap.size w w' := by
  have HB1 : ∀ o, Below w.heap.size w (w.alloc o) := fun o => balloc w o
  have HX1 : ∀ cs, (w.alloc (.cells cs 25)).heap[w.heap.size]? = some (.cells cs 25 (0, 0)) := fun cs => heap_alloc_new w _
  have HC : ∀ o, Calls Try.prog 17 #[c.val dv] (w.alloc o) fun e w' => ∃ dv', e = .returned (c.plain.val dv') ∧ Own w' (w.alloc o).heap.size dv' c.plain ∧ Below (w.alloc o).heap.size (w.alloc o) w' := fun o => plain_any c dv (w.alloc o) (hs.below (HB1 o)) hl
  have C := Lib.hid HC
  clear HC hs
  generalize c.plain = p at *
  obtain ⟨kind, lba, count, n, bs, key, res, keep⟩ := c
  simp only at hl
  unfold Cmd.val at C ⊢
  go_enter Try.func8, Try.ntmps8
  go_wp2_with (fail)
  refine (C.out _).mono ?_
  rintro e w2 ⟨dv2, rfl, ho2, hb2⟩
  have hx2 := (hb2.block w.heap.size (by simp)).trans (HX1 _)
  obtain ⟨A, cap, rfl, _, _⟩ := own_form ho2
  obtain ⟨hk1, hk2, hl1, hl2, hc1, hc2, hr1, hr2, hn⟩ := hok
  have HO2 := Lib.hid ho2
  have HBB := Lib.hid ((HB1 _).trans (hb2.mono (HB1 _).size))
  clear C HB1 HX1 ho2 hb2
  obtain ⟨kind, lba, count, n, bs, key, res, keep⟩ := p
  simp only at *
  go_upto_region 2 with (first | (refine wpList_store_row rfl 25 _ _ rfl w.heap.size _ rfl rfl 25 _ hx2 (by kernel_rfl) rfl (row_one _ _ _ _ _ _ _ _ _) ?_))
  have hlt := lt_of_heap hx2
  have T3 : (w2.setRow w.heap.size #[.int .i64 kind, .int .i64 lba, .int .i64 count, .slice A n cap, .int .u64 key, .int .i64 res, .bool keep]).heap[w.heap.size]? = some (.cells #[.int .i64 kind, .int .i64 lba, .int .i64 count, .slice A n cap, .int .u64 key, .int .i64 res, .bool keep] 25 (0, 0)) := heap_setRow hx2 _
  have B3 : Below w.heap.size w (w2.setRow w.heap.size #[.int .i64 kind, .int .i64 lba, .int .i64 count, .slice A n cap, .int .u64 key, .int .i64 res, .bool keep]) := Only.below HBB.out (Only.setRow _) HBB.out.size (by simp)
  have O3 : (w2.setRow w.heap.size #[.int .i64 kind, .int .i64 lba, .int .i64 count, .slice A n cap, .int .u64 key, .int .i64 res, .bool keep]).ownsRow (w.heap.size + 1) 41 16 (.slice A n cap) n (u8s bs) := own_kept (own_lower HO2.out (by simp)) (Only.setRow _) (fun k hk hm => by simp at hm; have := (HO2.out.lt k hk).1; simp at this; omega)
  generalize World.setRow _ _ _ = w3 at *
  have HX3 := Lib.hid T3
  have HB3 := Lib.hid B3
  have HO3 := Lib.hid O3
  have hb1 : w.heap.size < w3.heap.size := lt_of_heap T3
  clear T3 B3 O3 hx2 HO2 HBB hlt
  obtain ⟨c0, c1, c2, c3, c4, c5, c6⟩ := row_cells HX3.out
  have e0 : decide (kind < 1) = false := decide_eq_false (by omega)
  have e1 : decide (11 < kind) = false := decide_eq_false (by omega)
  have e2 : decide (lba < 0) = false := decide_eq_false (by omega)
  have e3 : decide (2147483647 < lba) = false := decide_eq_false (by omega)
  have e4 : decide (count < 0) = false := decide_eq_false (by omega)
  have e5 : decide (65535 < count) = false := decide_eq_false (by omega)
  have e6 : decide (res < 0) = false := decide_eq_false (by omega)
  have e7 : decide (65535 < res) = false := decide_eq_false (by omega)
  have e8 : decide ((8 : Int) < (n : Int)) = false := decide_eq_false (by omega)
  have HK := Lib.hid (And.intro hk1 hk2)
  have HL := Lib.hid (And.intro hl1 hl2)
  have HC := Lib.hid (And.intro hc1 hc2)
  have HR := Lib.hid (And.intro hr1 hr2)
  clear hk1 hk2 hl1 hl2 hc1 hc2 hr1 hr2
  go_upto_region 4 with (fail)
  clear e0 e1 e2 e3 e4 e5 e6 e7 e8
  have hO4 := World.ownsRow_lit (base := w.heap.size + 1) (e := 5) (size := 1) w3 #[.int .u8 (kind % 256), .int .u8 0, .int .u8 (res / 256 % 256), .int .u8 (res % 256)] 4 (by omega) (by unfold maxLen; omega) rfl
  have hO5 := World.ownsRow_lit (base := w.heap.size + 1) (e := 5) (size := 1) w3 #[.int .u8 (kind % 256), .int .u8 1, .int .u8 (res / 256 % 256), .int .u8 (res % 256)] 4 (by omega) (by unfold maxLen; omega) rfl
  have hE4 : En w (w3.alloc (.cells #[.int .u8 (kind % 256), .int .u8 0, .int .u8 (res / 256 % 256), .int .u8 (res % 256)] 5)) _ _ _ _ _ [kind % 256, 0, res / 256 % 256, res % 256] := ⟨hO4, (Below.heap_alloc _ _ _ hb1).trans HX3.out, own_below HO3.out (balloc _ _), HB3.out.alloc (by omega) _⟩
  have hE5 : En w (w3.alloc (.cells #[.int .u8 (kind % 256), .int .u8 1, .int .u8 (res / 256 % 256), .int .u8 (res % 256)] 5)) _ _ _ _ _ [kind % 256, 1, res / 256 % 256, res % 256] := ⟨hO5, (Below.heap_alloc _ _ _ hb1).trans HX3.out, own_below HO3.out (balloc _ _), HB3.out.alloc (by omega) _⟩
  have HE4 := Lib.hid hE4
  have HE5 := Lib.hid hE5
  clear hO4 hO5 hE4 hE5 HX3 HB3 HO3
  generalize hb3 : w3.heap.size = b3 at *
  have d6 : ∀ cs, (w3.alloc (.cells cs 5)).cell? ⟨w.heap.size, 6, none⟩ = some (.bool keep) := fun cs => (World.cell?_alloc_lt _ _ _ (by show w.heap.size < _; omega)).trans c6
  go_upto_if 67 with (fail)
  go_cut [4] (fun v4 wx => v4 = .slice (some ⟨b3, 0, none⟩) 4 4 ∧ En w wx #[.int .i64 kind, .int .i64 lba, .int .i64 count, .slice A n cap, .int .u64 key, .int .i64 res, .bool keep] (.slice A n cap) n bs (.slice (some ⟨b3, 0, none⟩) 4 4) [kind % 256, if keep then 1 else 0, res / 256 % 256, res % 256])
  case first =>
    as_aux_lemma =>
      cases keep with
      | true => go_wp2_with (fail); go_meet; exact ⟨rfl, HE5.out⟩
      | false => go_wp2_with (fail); go_meet; exact ⟨rfl, HE4.out⟩
  case rest =>
    as_aux_lemma =>
      obtain ⟨rfl, he⟩ := hcut
      have HE := Lib.hid he
      clear he HE4 HE5 c0 c1 c2 c3 c4 c5 c6 d6
      go_wp2_with (fail)
      go_loopg [4, 5] (5) (fun q v4 vk wr => ∃ j : Nat, j ≤ 4 ∧ vk = .int .i64 (24 - 8 * (j : Int)) ∧ q = 5 - j ∧ En w wr #[.int .i64 kind, .int .i64 lba, .int .i64 count, .slice A n cap, .int .u64 key, .int .i64 res, .bool keep] (.slice A n cap) n bs v4 ([kind % 256, if keep then 1 else 0, res / 256 % 256, res % 256] ++ (be4 lba).take j))
      case atStart => exact ⟨0, by omega, rfl, rfl, by simpa using HE.out⟩
      case round =>
        obtain ⟨j, hj, rfl, hq, he⟩ := hrel
        have HEj := Lib.hid he
        have HQ := Lib.hid hq
        obtain ⟨c0, c1, c2, c3, c4, c5, c6⟩ := row_cells he.box
        have hb1 := lt_of_heap he.box
        clear he hq
        by_cases hlt : j < 4
        · rcases (show j = 0 ∨ j = 1 ∨ j = 2 ∨ j = 3 by omega) with rfl | rfl | rfl | rfl
          · obtain ⟨v', w', hr, he'⟩ := HEj.out.app [lba / 16777216 % 256] 1 rfl (by simp [be4, be8])
            have HR := Lib.hid hr
            have HE' := Lib.hid he'
            clear hr he'
            go_wp2_with (first | (at_builtin; refine wpList_append_ran rfl (.tmp 74) (.tmp 80) 26 rfl _ _ rfl rfl _ _ HR.out ?_))
            go_roundg (5 - (0 + 1))
            case measure => have := HQ.out; omega
            case rel => exact ⟨0 + 1, by omega, rfl, rfl, by simpa [be4] using HE'.out⟩
          · obtain ⟨v', w', hr, he'⟩ := HEj.out.app [lba / 65536 % 256] 1 rfl (by simp [be4, be8])
            have HR := Lib.hid hr
            have HE' := Lib.hid he'
            clear hr he'
            go_wp2_with (first | (at_builtin; refine wpList_append_ran rfl (.tmp 74) (.tmp 80) 26 rfl _ _ rfl rfl _ _ HR.out ?_))
            go_roundg (5 - (1 + 1))
            case measure => have := HQ.out; omega
            case rel => exact ⟨1 + 1, by omega, rfl, rfl, by simpa [be4] using HE'.out⟩
          · obtain ⟨v', w', hr, he'⟩ := HEj.out.app [lba / 256 % 256] 1 rfl (by simp [be4, be8])
            have HR := Lib.hid hr
            have HE' := Lib.hid he'
            clear hr he'
            go_wp2_with (first | (at_builtin; refine wpList_append_ran rfl (.tmp 74) (.tmp 80) 26 rfl _ _ rfl rfl _ _ HR.out ?_))
            go_roundg (5 - (2 + 1))
            case measure => have := HQ.out; omega
            case rel => exact ⟨2 + 1, by omega, rfl, rfl, by simpa [be4] using HE'.out⟩
          · obtain ⟨v', w', hr, he'⟩ := HEj.out.app [lba % 256] 1 rfl (by simp [be4, be8])
            have HR := Lib.hid hr
            have HE' := Lib.hid he'
            clear hr he'
            go_wp2_with (first | (at_builtin; refine wpList_append_ran rfl (.tmp 74) (.tmp 80) 26 rfl _ _ rfl rfl _ _ HR.out ?_))
            go_roundg (5 - (3 + 1))
            case measure => have := HQ.out; omega
            case rel => exact ⟨3 + 1, by omega, rfl, rfl, by simpa [be4] using HE'.out⟩
        · obtain rfl : j = 4 := by omega
          have HE : Hid (En w wr #[.int .i64 kind, .int .i64 lba, .int .i64 count, .slice A n cap, .int .u64 key, .int .i64 res, .bool keep] (.slice A n cap) n bs u4 ([kind % 256, if keep then 1 else 0, res / 256 % 256, res % 256] ++ be4 lba)) := Lib.hid (by simpa [be4] using HEj.out)
          clear HEj hlt hj
          obtain ⟨v', w', hr, he'⟩ := HE.out.app [count / 256 % 256, count % 256, 0, (n : Int)] 4 rfl (by simp [be4])
          have HR := Lib.hid hr
          have HE2 := Lib.hid he'
          clear hr he'
          go_upto_region 12 with (first | (at_builtin; refine wpList_append_ran rfl (.tmp 82) (.tmp 94) 26 rfl _ _ rfl rfl _ _ HR.out ?_))
          clear HE HR c0 c1 c2 c3 c4 c5 c6 hb1
          have HE := HE2
          clear HE2
          go_wp2_with (fail)
          go_loopg [4, 6] (9) (fun q v4 vk wr => ∃ j : Nat, j ≤ 8 ∧ vk = .int .i64 (56 - 8 * (j : Int)) ∧ q = 9 - j ∧ En w wr #[.int .i64 kind, .int .i64 lba, .int .i64 count, .slice A n cap, .int .u64 key, .int .i64 res, .bool keep] (.slice A n cap) n bs v4 (([kind % 256, if keep then 1 else 0, res / 256 % 256, res % 256] ++ be4 lba ++ [count / 256 % 256, count % 256, 0, (n : Int)]) ++ (be8 key).take j))
          case atStart => exact ⟨0, by omega, rfl, rfl, by simpa using HE.out⟩
          case round =>
            obtain ⟨j, hj, rfl, hq, he⟩ := hrel
            have HEj := Lib.hid he
            have HQ := Lib.hid hq
            obtain ⟨c0, c1, c2, c3, c4, c5, c6⟩ := row_cells he.box
            have hb1 := lt_of_heap he.box
            clear he hq
            by_cases hlt : j < 8
            · rcases (show j = 0 ∨ j = 1 ∨ j = 2 ∨ j = 3 ∨ j = 4 ∨ j = 5 ∨ j = 6 ∨ j = 7 by omega) with rfl | rfl | rfl | rfl | rfl | rfl | rfl | rfl
              · obtain ⟨v', w', hr, he'⟩ := HEj.out.app [key / 72057594037927936 % 256] 1 rfl (by simp [be4, be8])
                have HR := Lib.hid hr
                have HE' := Lib.hid he'
                clear hr he'
                go_wp2_with (first | (at_builtin; refine wpList_append_ran rfl (.tmp 100) (.tmp 106) 26 rfl _ _ rfl rfl _ _ HR.out ?_))
                go_roundg (9 - (0 + 1))
                case measure => have := HQ.out; omega
                case rel => exact ⟨0 + 1, by omega, rfl, rfl, by simpa [be8] using HE'.out⟩
              · obtain ⟨v', w', hr, he'⟩ := HEj.out.app [key / 281474976710656 % 256] 1 rfl (by simp [be4, be8])
                have HR := Lib.hid hr
                have HE' := Lib.hid he'
                clear hr he'
                go_wp2_with (first | (at_builtin; refine wpList_append_ran rfl (.tmp 100) (.tmp 106) 26 rfl _ _ rfl rfl _ _ HR.out ?_))
                go_roundg (9 - (1 + 1))
                case measure => have := HQ.out; omega
                case rel => exact ⟨1 + 1, by omega, rfl, rfl, by simpa [be8] using HE'.out⟩
              · obtain ⟨v', w', hr, he'⟩ := HEj.out.app [key / 1099511627776 % 256] 1 rfl (by simp [be4, be8])
                have HR := Lib.hid hr
                have HE' := Lib.hid he'
                clear hr he'
                go_wp2_with (first | (at_builtin; refine wpList_append_ran rfl (.tmp 100) (.tmp 106) 26 rfl _ _ rfl rfl _ _ HR.out ?_))
                go_roundg (9 - (2 + 1))
                case measure => have := HQ.out; omega
                case rel => exact ⟨2 + 1, by omega, rfl, rfl, by simpa [be8] using HE'.out⟩
              · obtain ⟨v', w', hr, he'⟩ := HEj.out.app [key / 4294967296 % 256] 1 rfl (by simp [be4, be8])
                have HR := Lib.hid hr
                have HE' := Lib.hid he'
                clear hr he'
                go_wp2_with (first | (at_builtin; refine wpList_append_ran rfl (.tmp 100) (.tmp 106) 26 rfl _ _ rfl rfl _ _ HR.out ?_))
                go_roundg (9 - (3 + 1))
                case measure => have := HQ.out; omega
                case rel => exact ⟨3 + 1, by omega, rfl, rfl, by simpa [be8] using HE'.out⟩
              · obtain ⟨v', w', hr, he'⟩ := HEj.out.app [key / 16777216 % 256] 1 rfl (by simp [be4, be8])
                have HR := Lib.hid hr
                have HE' := Lib.hid he'
                clear hr he'
                go_wp2_with (first | (at_builtin; refine wpList_append_ran rfl (.tmp 100) (.tmp 106) 26 rfl _ _ rfl rfl _ _ HR.out ?_))
                go_roundg (9 - (4 + 1))
                case measure => have := HQ.out; omega
                case rel => exact ⟨4 + 1, by omega, rfl, rfl, by simpa [be8] using HE'.out⟩
              · obtain ⟨v', w', hr, he'⟩ := HEj.out.app [key / 65536 % 256] 1 rfl (by simp [be4, be8])
                have HR := Lib.hid hr
                have HE' := Lib.hid he'
                clear hr he'
                go_wp2_with (first | (at_builtin; refine wpList_append_ran rfl (.tmp 100) (.tmp 106) 26 rfl _ _ rfl rfl _ _ HR.out ?_))
                go_roundg (9 - (5 + 1))
                case measure => have := HQ.out; omega
                case rel => exact ⟨5 + 1, by omega, rfl, rfl, by simpa [be8] using HE'.out⟩
              · obtain ⟨v', w', hr, he'⟩ := HEj.out.app [key / 256 % 256] 1 rfl (by simp [be4, be8])
                have HR := Lib.hid hr
                have HE' := Lib.hid he'
                clear hr he'
                go_wp2_with (first | (at_builtin; refine wpList_append_ran rfl (.tmp 100) (.tmp 106) 26 rfl _ _ rfl rfl _ _ HR.out ?_))
                go_roundg (9 - (6 + 1))
                case measure => have := HQ.out; omega
                case rel => exact ⟨6 + 1, by omega, rfl, rfl, by simpa [be8] using HE'.out⟩
              · obtain ⟨v', w', hr, he'⟩ := HEj.out.app [key % 256] 1 rfl (by simp [be4, be8])
                have HR := Lib.hid hr
                have HE' := Lib.hid he'
                clear hr he'
                go_wp2_with (first | (at_builtin; refine wpList_append_ran rfl (.tmp 100) (.tmp 106) 26 rfl _ _ rfl rfl _ _ HR.out ?_))
                go_roundg (9 - (7 + 1))
                case measure => have := HQ.out; omega
                case rel => exact ⟨7 + 1, by omega, rfl, rfl, by simpa [be8] using HE'.out⟩
            · obtain rfl : j = 8 := by omega
              have HE : Hid (En w wr #[.int .i64 kind, .int .i64 lba, .int .i64 count, .slice A n cap, .int .u64 key, .int .i64 res, .bool keep] (.slice A n cap) n bs u4 (([kind % 256, if keep then 1 else 0, res / 256 % 256, res % 256] ++ be4 lba ++ [count / 256 % 256, count % 256, 0, (n : Int)]) ++ be8 key)) := Lib.hid (by simpa [be8] using HEj.out)
              clear HEj hlt hj
              go_wp2_with (fail)
              go_loopg [4, 111] (n) (fun q v4 vi wr => ∃ i : Nat, i ≤ n ∧ vi = .int .i64 (i : Int) ∧ q = n - i ∧ En w wr #[.int .i64 kind, .int .i64 lba, .int .i64 count, .slice A n cap, .int .u64 key, .int .i64 res, .bool keep] (.slice A n cap) n bs v4 ((([kind % 256, if keep then 1 else 0, res / 256 % 256, res % 256] ++ be4 lba ++ [count / 256 % 256, count % 256, 0, (n : Int)]) ++ be8 key) ++ bs.take (i * 16)))
              case atStart => exact ⟨0, by omega, rfl, rfl, by simpa using HE.out⟩
              case round =>
                obtain ⟨i, hi, rfl, hq, he⟩ := hrel
                have HEi := Lib.hid he
                have HQ2 := Lib.hid hq
                obtain ⟨c0, c1, c2, c3, c4, c5, c6⟩ := row_cells he.box
                have hb1 := lt_of_heap he.box
                clear he hq
                by_cases hlt : i < n
                · obtain ⟨r2, rfl, _, hr2⟩ := own_addr HEi.out.secs (by omega)
                  have hbl : bs.length = n * 16 := by have := HEi.out.secs.1; unfold u8s at this; simpa using this
                  have hcl : (u8s ((bs.drop (i * 16)).take 16)).length = 16 := by unfold u8s; simp; omega
                  have hrg : wr.rangeAt r2 (i * 16) (u8s ((bs.drop (i * 16)).take 16)) := by
                    intro j v hv
                    have hj : j < 16 := by have := (List.getElem?_eq_some_iff.1 hv).1; omega
                    rw [own_cell HEi.out.secs (by omega)]
                    unfold u8s at hv ⊢
                    rw [List.getElem?_map, List.getElem?_take_of_lt hj, List.getElem?_drop] at hv
                    rw [List.getElem?_map]
                    exact hv
                  have hI : (Try.prog.info? 41).map (·.size) = some (u8s ((bs.drop (i * 16)).take 16)).length := by rw [hcl]; kernel_rfl
                  have hI2 : (Try.prog.info? 41).map (·.size) = some (u8s ((bs.drop (i * 16)).take 16)).toArray.size := by rw [List.size_toArray, hcl]; kernel_rfl
                  have hZ : (16 : Nat) = (u8s ((bs.drop (i * 16)).take 16)).toArray.size := by rw [List.size_toArray, hcl]
                  have hB8 : Below wr.heap.size wr ((wr.alloc (.cells #[.int .u8 0, .int .u8 0, .int .u8 0, .int .u8 0, .int .u8 0, .int .u8 0, .int .u8 0, .int .u8 0, .int .u8 0, .int .u8 0, .int .u8 0, .int .u8 0, .int .u8 0, .int .u8 0, .int .u8 0, .int .u8 0] 41)).setRow wr.heap.size (u8s ((bs.drop (i * 16)).take 16)).toArray) := Only.below (balloc wr _) (Only.setRow _) (by simp) (by simp)
                  have hX8 : ((wr.alloc (.cells #[.int .u8 0, .int .u8 0, .int .u8 0, .int .u8 0, .int .u8 0, .int .u8 0, .int .u8 0, .int .u8 0, .int .u8 0, .int .u8 0, .int .u8 0, .int .u8 0, .int .u8 0, .int .u8 0, .int .u8 0, .int .u8 0] 41)).setRow wr.heap.size (u8s ((bs.drop (i * 16)).take 16)).toArray).heap[wr.heap.size]? = some (.cells (u8s ((bs.drop (i * 16)).take 16)).toArray 41 (0, 0)) := heap_setRow (heap_alloc_new wr _) _
                  obtain ⟨v', w', hr, he'⟩ := (HEi.out.kept hB8).cat (.slice (some ⟨wr.heap.size, 0, none⟩) 16 16) 16 ((bs.drop (i * 16)).take 16) (Rd.of_block hX8 (by rw [List.size_toArray, hcl]) (by unfold maxLen; omega)) (by simp [be4, be8]; omega)
                  have HR := Lib.hid hr
                  have HE' := Lib.hid he'
                  have HI := Lib.hid hI
                  have HI2 := Lib.hid hI2
                  have HZ := Lib.hid hZ
                  have HRG := Lib.hid hrg
                  have HBL := Lib.hid hbl
                  clear hr he' hI hI2 hZ hrg hX8 hB8 hcl hbl
                  go_wp2_with (first
                    | (refine wpList_load_mid rfl 41 _ rfl r2 (i * 16) rfl _ _ HRG.out Try.underlying41 rfl HI.out ?_)
                    | (refine wpList_store_row rfl 41 _ _ rfl wr.heap.size _ rfl rfl 41 _ (heap_alloc_new wr _) HI2.out HZ.out (all_oneCell_toArray (u8s_one _)) ?_)
                    | (at_builtin; refine wpList_append_ran rfl (.tmp 115) (.tmp 116) 26 rfl _ _ rfl rfl _ _ HR.out ?_))
                  go_roundg (n - (i + 1))
                  case measure => have := HQ2.out; omega
                  case rel => exact ⟨i + 1, by omega, by go_num, rfl, by rw [Nat.succ_mul, List.take_add, ← List.append_assoc]; exact HE'.out⟩
                · obtain rfl : i = n := by omega
                  have hbl : bs.length = i * 16 := by have := HEi.out.secs.1; unfold u8s at this; simpa using this
                  have hE := HEi.out
                  rw [← hbl, List.take_length] at hE
                  have HE := Lib.hid hE
                  clear hE HEi
                  go_wp2_with (fail)
                  go_ret2
                  exact ⟨_, rfl, own_lower HE.out.row (by omega), HE.out.below⟩
end Go.Proofs.Ytlkibkemmmppcaa.Wd
