/- Clone, add, sums, Exp over rows of one's own; Delta, walked. -/
import Derived.Test.YthjodjfjeamilaaWid
set_option linter.unusedVariables false
set_option linter.unusedSimpArgs false
namespace Go.Proofs.Ythjodjfjeamilaa.Wd
open Go Go.RowKit Go.Proofs.YthjodjfjeamilaaW.PrintWords Go.Proofs.YthjodjfjeamilaaW.PrintLast Go.Proofs.YthjodjfjeamilaaW.PrintMore Go.Proofs.Ythjodjfjeamilaa.Bridge Go.Proofs.Ythjodjfjeamilaa.PA Go.Proofs.Ythjodjfjeamilaa.BrPA Go.Proofs.Ythjodjfjeamilaa.Pur
/-- The cells of bytes. -/
def u8n (l : List Nat) : List Value := encs (Value.int .u8) (I l)
theorem u8n_len (l : List Nat) : (u8n l).length = l.length := by unfold u8n; rw [encs_length, I_len]
/-- A row of bytes of one's own. -/
def Own (w : World) (base : Nat) (v : Value) (l : List Nat) : Prop := w.ownsRow base 5 1 v l.length (u8n l)
/-- Bytes that can be read. -/
def RdB (w : World) (A : Option Addr) (l : List Nat) : Prop := Kd.C (Kd.int .u8) w A (I l).length (I l)
theorem RdB.below {w w' : World} {A : Option Addr} {l : List Nat} (h : RdB w A l) (hb : Below w.heap.size w w') : RdB w' A l := Kd.C_below h hb
theorem RdB.max {w : World} {A : Option Addr} {l : List Nat} (h : RdB w A l) : l.length ≤ 9223372036854775807 := by have := Kd.C_max h; rw [I_len] at this; exact this
theorem own_R {w : World} {base : Nat} {v : Value} {l : List Nat} (h : Own w base v l) {ok : Nat → Prop} (hok : ∀ k, v.ownBlock = some k → ok k) : Kd.R (Kd.int .u8) 5 w base ok v (I l) :=
  Kd.R_of_own (by rw [I_len]; exact h) hok
theorem own_of {w : World} {base : Nat} {ok : Nat → Prop} {v : Value} {l : List Nat} (h : Kd.R (Kd.int .u8) 5 w base ok v (I l)) : Own w base v l := by
  have := Kd.own_of_R h
  rw [I_len] at this
  exact this
theorem Own.form {w : World} {base : Nat} {v : Value} {l : List Nat} (h : Own w base v l) : ∃ A c, v = .slice A (I l).length c ∧ (I l).length ≤ c ∧ RdB w A l := by
  obtain ⟨A, c, h1, h2, h3⟩ := Kd.R_reads (own_R h (ok := fun _ => True) (fun _ _ => trivial))
  exact ⟨A, c, h1, h2, h3⟩
/-- A row is read in every world where its block is as it was. -/
theorem RdB.keep {w w' : World} {A : Option Addr} {l : List Nat} (h : RdB w A l) (hk : ∀ a, A = some a → 0 < l.length → a.block < w.heap.size → w'.heap[a.block]? = w.heap[a.block]?) : RdB w' A l := by
  have hr := Kd.reads_of_C (d := (0 : Int)) h
  refine Kd.C_of_reads (d := (0 : Int)) ⟨hr.1, hr.2.1, fun h0 => ?_⟩
  obtain ⟨a, hA, hx⟩ := hr.2.2 h0
  refine ⟨a, hA, fun j hj => ?_⟩
  have h1 := hx j hj
  have hb : (a.add j).block = a.block := by unfold Addr.add; split <;> rfl
  have hlt := World.block_lt_of_cell? w _ h1
  rw [hb] at hlt
  have h2 := hk a hA (by rw [I_len] at h0; exact h0) hlt
  rw [← h1]
  unfold World.cell?
  rw [hb, h2]
theorem own_far {w w' : World} {base : Nat} {v : Value} {l : List Nat} (h : Own w base v l) {S : Nat → Prop} (hk : Kept w w' S) (hS : ∀ k, v.ownBlock = some k → ¬ S k) : Own w' base v l :=
  own_move h (fun k hv => hk.2 k (own_lt h k hv) (hS k hv))
theorem own_belowB {w w' : World} {base : Nat} {v : Value} {l : List Nat} (h : Own w base v l) (hb : Below w.heap.size w w') : Own w' base v l := own_below h hb
theorem run_append_none_b {P : Program} {w : World} (base : Nat) (t ty e : TypeId) (i : TypeInfo) (size c : Nat) (ht : P.underlying t = some (.slice e)) (hi : P.info? e = some i)
    (v : Value) (n : Nat) (xs : List Value) (hown : w.ownsRow base e size v n xs) :
    (Builtin.append_ #[t, t] ty #[v, .slice none 0 c]).run P w = .ok v w := run_append_none_c base t ty e i size c ht hi v n xs hown
theorem info5b : (Try.prog.info? 5).map (fun i => (i.zero, i.size, i.bytes)) = some (some (.int .u8 0), 1, 1) := by kernel_rfl
theorem cl_nil (n c : Nat) : ∀ W : World, (binOp BinOp.eql 24 (Value.slice none n c) (Value.slice none 0 0)).run Try.prog W = .ok (.bool true) W := fun W => by kernel_rfl
theorem cl_some (a : Addr) (n cap : Nat) : ∀ W : World, (binOp BinOp.eql 24 (Value.slice (some a) n cap) (Value.slice none 0 0)).run Try.prog W = .ok (.bool false) W := fun W => by kernel_rfl
set_option maxRecDepth 100000 in
theorem clone_any (w : World) (A : Option Addr) (c : Nat) (l : List Nat) (h : RdB w A l) (hl : l.length ≤ 140737488355328) :
    Calls Try.prog 28 #[.slice A (I l).length c] w fun e w' => ∃ v', e = .returned v' ∧ Own w' w.heap.size v' l ∧ Below w.heap.size w w' := by
  cases A with
  | none =>
    obtain rfl : l = [] := by
      rcases Nat.eq_zero_or_pos l.length with h0 | h0
      · exact List.eq_nil_of_length_eq_zero h0
      · obtain ⟨a, hA, _⟩ := h.2.2 (by rw [I_len]; exact h0)
        cases hA
    have hcmp := cl_nil (I []).length c
    clear h hl
    go_enter Try.func28, Try.ntmps28
    go_wp2_with (fail)
    go_ret
    exact ⟨_, rfl, World.ownsRow_nil _ _ _ _, Below.refl _ _⟩
  | some a =>
    obtain ⟨i0, hi0, hz0, hz1, hz2⟩ := info_parts info5b
    have B1 : Below w.heap.size w (w.alloc (.cells #[] 5)) := balloc w _
    have O1 : (w.alloc (.cells #[] 5)).ownsRow w.heap.size 5 1 (.slice (some ⟨w.heap.size, 0, none⟩) 0 0) 0 [] := World.ownsRow_lit w #[] 0 (Nat.le_refl _) (by unfold maxLen; omega) rfl
    have hr := Kd.reads_of_C (d := (0 : Int)) (h.below B1)
    obtain ⟨v', w', hrun, h3, h4, _, _⟩ := run_append_own_at (P := Try.prog) (w.alloc (.cells #[] 5)) w.heap.size 24 24 5 i0 (.int .u8 0) 1 1 Try.underlying24 hi0 hz0 hz1 hz2 rfl (by decide) _ 0 [] O1 a (I l).length c (u8n l) (by rw [u8n_len, I_len, Nat.mul_one]) (fun j u hj => by
      have hjl : j < (I l).length := by have := (List.getElem?_eq_some_iff.1 hj).1; rw [u8n_len] at this; rw [I_len]; exact this
      obtain ⟨a', hA, hx⟩ := hr.2.2 (by omega)
      injection hA with hA
      subst hA
      rw [hx j hjl]
      unfold u8n at hj
      rw [encs_get (d := 0) _ _ hjl] at hj
      exact hj) (fun y hy => by unfold u8n encs at hy; obtain ⟨z, _, rfl⟩ := List.mem_map.1 hy; rfl) (by rw [I_len]; unfold maxLen; omega) (by rw [I_len]; omega) (by simp)
    rw [Nat.zero_add, List.nil_append, I_len] at h3
    have HR := Lib.hid hrun
    have HO := Lib.hid (show Own w' w.heap.size v' l from h3)
    have HB := Lib.hid (B1.grown h4 (by simp) (fun q hq => by simp [Value.ownBlock] at hq; omega))
    have hcmp := cl_some a (I l).length c
    clear hrun h3 h4 O1 B1 hr h hl hi0 hz0 hz1 hz2
    go_enter Try.func28, Try.ntmps28
    go_wp2_with (first | (at_builtin; refine wpList_append_ran rfl (.tmp 5) (.tmp 6) 24 rfl _ _ rfl rfl v' w' HR.out ?_))
    go_ret
    exact ⟨_, rfl, HO.out, HB.out⟩
/-- add, to a row of one's own. -/
theorem add_any (w0 w : World) (v : Value) (n : Nat) (f : Nat → Nat) (A : Option Addr) (c : Nat) (l : List Nat) (g : Nat) (hB : Below w0.heap.size w0 w) (ho : Own w w0.heap.size v (tab n f)) (hr : RdB w A l) (hc : (I l).length ≤ c) (hA : ∀ a, A = some a → 0 < l.length → v.ownBlock ≠ some a.block)
    (hf : ∀ k, k < n → f k < 256) (hl : Byt l) (hg : g < 256) (hln : l.length ≤ n) (hn : n ≤ 4096) :
    Calls Try.prog 29 #[v, .slice A (I l).length c, .int .u8 (g : Int)] w fun e w' => e = .returned (.tuple #[]) ∧ Own w' w0.heap.size v (tab n (fun k => f k ^^^ Math.mul g (l.getD k 0))) ∧ Below w0.heap.size w0 w' ∧ Kept w w' (fun k => some k = v.ownBlock) := by
  obtain ⟨k, hk⟩ := (add_ev n f l g hf hl hg hln (by omega)).rounds
  refine (parity_add.calls k (fun k => some k = v.ownBlock) v (I (tab n f)) A c (I l) g _ w0 w hB (own_R ho (fun _ h => h.symm)) (fun W hW => hr.keep (fun a ha h0 hlt => hW.2 _ hlt (fun h => hA a ha h0 h.symm))) hc hk).mono ?_
  rintro e w' ⟨he, h1, h2, h3⟩
  exact ⟨he, own_of h1, h2, h3⟩
theorem exp_any (i : Nat) (w : World) : Calls Try.prog 30 #[.int .i64 (i : Int)] w fun e w' => e = .returned (.int .u8 ((Math.e i : Nat) : Int)) ∧ Below w.heap.size w w' := by
  have hx := exp_ev (i : Int)
  rw [e_rnd] at hx
  obtain ⟨k, hk⟩ := hx.rounds
  refine (gf_Exp.calls k _ _ w hk).mono ?_
  rintro e w' ⟨he, hd⟩
  exact ⟨he, hd.below⟩
theorem sums_any (w : World) (A : Option Addr) (c : Nat) (cs : List (List Nat)) (n : Nat) (hr : Kd.C (Kd.slice 5 (Kd.int .u8)) w A (II cs).length (II cs)) (hc : (II cs).length ≤ c) (hb : Bytt cs) (hl : ∀ c ∈ cs, c.length ≤ n) (hn : n ≤ 4096) (hcn : cs.length ≤ 30) :
    Calls Try.prog 23 #[.slice A (II cs).length c, .int .i64 (n : Int)] w fun e w' => ∃ v0 v1, e = .returned (.tuple #[v0, v1]) ∧ Own w' w.heap.size v0 (tab n (wP cs)) ∧ Own w' w.heap.size v1 (tab n (wQ cs)) ∧ (∀ k, v0.ownBlock = some k → v1.ownBlock ≠ some k) ∧ Below w.heap.size w w' := by
  obtain ⟨k, hk⟩ := (sums_ev n cs hb hl hn (by omega)).rounds
  refine (parity_sums.calls k A c (II cs) _ _ _ w hr hc hk).mono ?_
  rintro e w' ⟨v0, v1, he, h1, h2, h3⟩
  refine ⟨v0, v1, he, own_of h1, own_of h2, fun k hk h => ?_, h3⟩
  exact h1.1 k hk h.symm
theorem width_any (w : World) (A0 : Option Addr) (c0 : Nat) (cs : List (List Nat)) (A1 : Option Addr) (c1 : Nat) (ms : List (List Nat)) (hr0 : Kd.C (Kd.slice 5 (Kd.int .u8)) w A0 (II cs).length (II cs)) (hc0 : (II cs).length ≤ c0) (hr1 : Kd.C (Kd.slice 5 (Kd.int .u8)) w A1 (II ms).length (II ms)) (hc1 : (II ms).length ≤ c1) (hm : ms.length ≤ 2)
    (r1 r2 : Int) (h : parity_width.f (II cs) (II ms) = some (r1, r2)) :
    Calls Try.prog 22 #[.slice A0 (II cs).length c0, .slice A1 (II ms).length c1] w fun e w' => e = .returned (.tuple #[.int .i64 r1, .int .i64 r2]) ∧ Below w.heap.size w w' :=
  parity_width.calls A0 c0 (II cs) A1 c1 (II ms) r1 r2 w hr0 hc0 hr1 hc1 h
/-- Columns, laid side by side in a new block. -/
theorem cols_lit (w : World) (xs : List (Option Addr × Nat × List Nat)) (h : ∀ x ∈ xs, RdB w x.1 x.2.2 ∧ (I x.2.2).length ≤ x.2.1) (hx : xs.length ≤ 100) :
    Kd.C (Kd.slice 5 (Kd.int .u8)) (w.alloc (.cells (xs.map fun x => Value.slice x.1 (I x.2.2).length x.2.1).toArray 24)) (some ⟨w.heap.size, 0, none⟩) (II (xs.map fun x => x.2.2)).length (II (xs.map fun x => x.2.2)) := by
  refine ⟨rfl, by rw [II_len, List.length_map]; omega, fun _ => ⟨_, rfl, fun j q hq => ?_⟩⟩
  unfold II at hq
  rw [List.map_map, List.getElem?_map] at hq
  obtain ⟨x, hxj, rfl⟩ := Option.map_eq_some_iff.1 hq
  obtain ⟨h1, h2⟩ := h x (List.mem_of_getElem? hxj)
  refine ⟨[.slice x.1 (I x.2.2).length x.2.1], rfl, ⟨x.1, x.2.1, rfl, h2, h1.below (balloc w _)⟩, fun i u hu => ?_⟩
  have hi : i = 0 := by have := (List.getElem?_eq_some_iff.1 hu).1; simp at this; exact this
  subst hi
  simp only [List.getElem?_cons_zero, Option.some.injEq] at hu
  subst hu
  rw [show j * (Kd.slice 5 (Kd.int .u8)).sz + 0 = j from by show j * 1 + 0 = j; omega, addr_add, cell_of_heap (heap_alloc_new w _), Nat.zero_add]
  simp [hxj]
theorem widP_lost : ∀ (ls : List Nat) (n l : Nat), (widP ls n l).2 ≤ l + ls.length
  | [], n, l => by simp [widP]
  | k :: ls, n, l => by
    unfold widP
    rw [List.length_cons]
    split
    · have := widP_lost ls n (l + 1); omega
    · split
      · have := widP_lost ls k l; omega
      · split
        · simp
        · have := widP_lost ls n l; omega
/-- A row with o and then m added, each g times: after j of the two. -/
def gf (g : Nat) (p o m : List Nat) : Nat → Nat → Nat
  | 0, k => p.getD k 0
  | 1, k => p.getD k 0 ^^^ Math.mul g (o.getD k 0)
  | _ + 2, k => p.getD k 0 ^^^ Math.mul g (o.getD k 0) ^^^ Math.mul g (m.getD k 0)
theorem gf_lt {g : Nat} {p o m : List Nat} (hp : Byt p) (ho : Byt o) (hm : Byt m) (hg : g < 256) : ∀ j k, gf g p o m j k < 256
  | 0, k => byt_get hp k
  | 1, k => Math.xor_lt (byt_get hp k) (Math.mul_lt hg)
  | _ + 2, k => Math.xor_lt (Math.xor_lt (byt_get hp k) (Math.mul_lt hg)) (Math.mul_lt hg)
/-- What came in is none of the rows that were made. -/
theorem far {w wr : World} {v : Value} {l x : List Nat} {A : Option Addr} (ho : Own wr w.heap.size v l) (hx : RdB w A x) : ∀ a, A = some a → 0 < x.length → v.ownBlock ≠ some a.block := by
  intro a hA h0 hb
  have hr := Kd.reads_of_C (d := (0 : Int)) hx
  obtain ⟨a', hA', hc⟩ := hr.2.2 (by rw [I_len]; exact h0)
  rw [hA] at hA'
  injection hA' with hA'
  subst hA'
  have h1 := hc 0 (by rw [I_len]; exact h0)
  have hlt := World.block_lt_of_cell? w _ h1
  have hbb : (a.add 0).block = a.block := by unfold Addr.add; split <;> rfl
  rw [hbb] at hlt
  have := (ho.lt a.block hb).1
  omega
/-! ### Delta -/
/-- What Delta answers. -/
def dlt (p q : List Nat) (col : Int) (o m : List Nat) : List Nat × List Nat × Int :=
  if (wid [p.length, q.length, o.length, m.length]).1 = 0 ∨ 0 < (wid [p.length, q.length, o.length, m.length]).2 then ([], [], 1)
  else if col < 0 ∨ 30 ≤ col then ([], [], 2)
  else (tab p.length (fun k => p.getD k 0 ^^^ Math.mul 1 (o.getD k 0) ^^^ Math.mul 1 (m.getD k 0)), tab p.length (fun k => q.getD k 0 ^^^ Math.mul (Math.e col.toNat) (o.getD k 0) ^^^ Math.mul (Math.e col.toNat) (m.getD k 0)), 0)
/-- Delta's answer, in memory. -/
def DltPost (w : World) (r : List Nat × List Nat × Int) (e : Ending) (w' : World) : Prop :=
  ∃ v0 v1, e = .returned (.tuple #[v0, v1, .int .i64 r.2.2]) ∧ Own w' w.heap.size v0 r.1 ∧ Own w' w.heap.size v1 r.2.1 ∧ (∀ k, v0.ownBlock = some k → v1.ownBlock ≠ some k) ∧ Below w.heap.size w w'
theorem DltPost.nil {w w' : World} {x : Int} (hb : Below w.heap.size w w') {r : List Nat × List Nat × Int} (hr : r = ([], [], x)) : DltPost w r (.returned (.tuple #[.slice none 0 0, .slice none 0 0, .int .i64 x])) w' := by
  subst hr
  exact ⟨_, _, rfl, World.ownsRow_nil _ _ _ _, World.ownsRow_nil _ _ _ _, fun k h => by simp [Value.ownBlock] at h, hb⟩
set_option maxRecDepth 100000 in
set_option maxHeartbeats 8000000 in
theorem delta_any (w : World) (A0 : Option Addr) (c0 : Nat) (p : List Nat) (A1 : Option Addr) (c1 : Nat) (q : List Nat) (col : Int) (A3 : Option Addr) (c3 : Nat) (o : List Nat) (A4 : Option Addr) (c4 : Nat) (m : List Nat)
    (h0 : RdB w A0 p) (k0 : (I p).length ≤ c0) (h1 : RdB w A1 q) (k1 : (I q).length ≤ c1) (h3 : RdB w A3 o) (k3 : (I o).length ≤ c3) (h4 : RdB w A4 m) (k4 : (I m).length ≤ c4)
    (b0 : Byt p) (b1 : Byt q) (b3 : Byt o) (b4 : Byt m) :
    Calls Try.prog 16 #[.slice A0 (I p).length c0, .slice A1 (I q).length c1, .int .i64 col, .slice A3 (I o).length c3, .slice A4 (I m).length c4] w (DltPost w (dlt p q col o m)) := by
  have hcl := cols_lit w [(A0, c0, p), (A1, c1, q), (A3, c3, o), (A4, c4, m)] (by intro x hx; simp at hx; rcases hx with rfl | rfl | rfl | rfl; exact ⟨h0, k0⟩; exact ⟨h1, k1⟩; exact ⟨h3, k3⟩; exact ⟨h4, k4⟩) (by simp)
  have HCL := Lib.hid hcl
  have HW : Hid (parity_width.f (II [p, q, o, m]) (II []) = some (((wid [p.length, q.length, o.length, m.length]).1 : Int), ((wid [p.length, q.length, o.length, m.length]).2 : Int))) := Lib.hid (by
    unfold parity_width.f
    rw [if_pos (by simp [II]), if_neg (by simp [II])]
    simp [II, lens2, I_len])
  have B1 := balloc w (.cells #[.slice A0 (I p).length c0, .slice A1 (I q).length c1, .slice A3 (I o).length c3, .slice A4 (I m).length c4] 24)
  have HB1 := Lib.hid B1
  have HC : Hid (Calls Try.prog 22 #[.slice (some ⟨w.heap.size, 0, none⟩) 4 4, .slice none 0 0] (w.alloc (.cells #[.slice A0 (I p).length c0, .slice A1 (I q).length c1, .slice A3 (I o).length c3, .slice A4 (I m).length c4] 24)) fun e w' => e = .returned (.tuple #[.int .i64 ((wid [p.length, q.length, o.length, m.length]).1 : Int), .int .i64 ((wid [p.length, q.length, o.length, m.length]).2 : Int)]) ∧ Below (w.alloc (.cells #[.slice A0 (I p).length c0, .slice A1 (I q).length c1, .slice A3 (I o).length c3, .slice A4 (I m).length c4] 24)).heap.size (w.alloc (.cells #[.slice A0 (I p).length c0, .slice A1 (I q).length c1, .slice A3 (I o).length c3, .slice A4 (I m).length c4] 24)) w') :=
    Lib.hid (width_any _ _ 4 [p, q, o, m] none 0 [] HCL.out (by simp [II]) (Kd.C_nil _ _) (Nat.le_refl _) (by simp) _ _ HW.out)
  generalize hD : dlt p q col o m = D
  unfold dlt at hD
  have hcases : (((wid [p.length, q.length, o.length, m.length]).1 = 0) ∨ ((wid [p.length, q.length, o.length, m.length]).1 ≠ 0 ∧ 0 < (wid [p.length, q.length, o.length, m.length]).2)) ∨ (((wid [p.length, q.length, o.length, m.length]).1 = p.length ∧ (wid [p.length, q.length, o.length, m.length]).2 = 0) ∧ 1 ≤ p.length ∧ p.length ≤ 4096 ∧ q.length = p.length ∧ o.length = p.length ∧ m.length = p.length) := by
    rcases wid_cases [p.length, q.length, o.length, m.length] with ⟨n, l, hs, _, h2⟩ | ⟨_, _, h2⟩
    · rw [h2]
      have hp := hs.pos
      by_cases hl : l = 0
      · right
        have hlost := hs.lost
        rw [hl] at hlost
        have hz : ∀ k ∈ [p.length, q.length, o.length, m.length], k = n := fun k hk => by
          rcases hs.all k hk with h | h
          · exfalso
            rw [h] at hk
            have := List.count_pos_iff.2 hk
            omega
          · exact h
        have e0 := hz p.length (by simp)
        have e1 := hz q.length (by simp)
        have e3 := hz o.length (by simp)
        have e4 := hz m.length (by simp)
        have := hs.lim
        exact ⟨⟨by simp only; omega, hl⟩, by omega, by omega, by omega, by omega, by omega⟩
      · left; right
        exact ⟨by simp only; omega, by simp only; omega⟩
    · exact .inl (.inl h2)
  have hwb : (wid [p.length, q.length, o.length, m.length]).1 < 9223372036854775808 ∧ (wid [p.length, q.length, o.length, m.length]).2 < 9223372036854775808 := by
    rcases wid_cases [p.length, q.length, o.length, m.length] with ⟨n, l, hs, _, h2⟩ | ⟨_, _, h2⟩
    · rw [h2]
      have h5 := hs.lim
      have h6 := hs.lost
      have h7 := List.count_le_length (a := 0) (l := [p.length, q.length, o.length, m.length])
      simp only [List.length_cons, List.length_nil] at h7
      exact ⟨by simp only; omega, by simp only; omega⟩
    · have h7 := widP_lost [p.length, q.length, o.length, m.length] 0 0
      simp only [List.length_cons, List.length_nil] at h7
      refine ⟨by omega, ?_⟩
      unfold wid
      split
      · decide
      · omega
  generalize wid [p.length, q.length, o.length, m.length] = W at *
  obtain ⟨n, l⟩ := W
  simp only at hcases hwb hD HC HW
  obtain ⟨hn63, hl63⟩ := hwb
  have HD := Lib.hid hD
  have H0 := Lib.hid h0
  have H1 := Lib.hid h1
  have H3 := Lib.hid h3
  have H4 := Lib.hid h4
  clear hD hcl HCL HW B1 h0 h1 h3 h4
  rcases hcases with hbad | ⟨⟨rfl, rfl⟩, hn1, hn4, hq, ho, hm⟩
  · have HRES : Hid (D = ([], [], 1)) := Lib.hid (HD.out.symm.trans (if_pos (by omega)))
    clear HD
    rcases hbad with hz | ⟨hz, hl⟩
    · have e1 : ((n : Int) == 0) = true := bT (by omega)
      clear hz
      go_enter Try.func16, Try.ntmps16
      go_wp2_with (fail)
      refine (HC.out).mono ?_
      rintro e w2 ⟨rfl, hb⟩
      go_wp2_with (fail)
      go_ret3
      exact DltPost.nil (HB1.out.trans (hb.mono HB1.out.size)) HRES.out
    · have e1 : ((n : Int) == 0) = false := bF (by omega)
      have e2 : decide ((0 : Int) < (l : Int)) = true := decide_eq_true (by omega)
      have e5 : decide (0 < l) = true := decide_eq_true hl
      clear hz hl
      go_enter Try.func16, Try.ntmps16
      go_wp2_with (fail)
      refine (HC.out).mono ?_
      rintro e w2 ⟨rfl, hb⟩
      go_wp2_with (fail)
      go_ret3
      exact DltPost.nil (HB1.out.trans (hb.mono HB1.out.size)) HRES.out
  · have e1 : ((p.length : Int) == 0) = false := bF (by omega)
    have HD2 := HD.out
    simp only [if_neg (show ¬ (p.length = 0 ∨ 0 < 0) by omega)] at HD2
    by_cases hc0 : col < 0
    · have HRES : Hid (D = ([], [], 2)) := Lib.hid (HD2.symm.trans (if_pos (.inl hc0)))
      have e3 : decide (col < 0) = true := decide_eq_true hc0
      clear HD HD2
      go_enter Try.func16, Try.ntmps16
      go_wp2_with (fail)
      refine (HC.out).mono ?_
      rintro e w2 ⟨rfl, hb⟩
      go_wp2_with (fail)
      go_ret3
      exact DltPost.nil (HB1.out.trans (hb.mono HB1.out.size)) HRES.out
    by_cases hc30 : 30 ≤ col
    · have HRES : Hid (D = ([], [], 2)) := Lib.hid (HD2.symm.trans (if_pos (.inr hc30)))
      have e3 : decide (col < 0) = false := decide_eq_false hc0
      have e4 : decide (30 ≤ col) = true := decide_eq_true hc30
      clear HD HD2
      go_enter Try.func16, Try.ntmps16
      go_wp2_with (fail)
      refine (HC.out).mono ?_
      rintro e w2 ⟨rfl, hb⟩
      go_wp2_with (fail)
      go_ret3
      exact DltPost.nil (HB1.out.trans (hb.mono HB1.out.size)) HRES.out
    obtain ⟨colN, rfl⟩ := Int.eq_ofNat_of_zero_le (show 0 ≤ col by omega)
    have HRES := Lib.hid (HD2.symm.trans (if_neg (show ¬ ((colN : Int) < 0 ∨ 30 ≤ (colN : Int)) by omega)))
    have e3 : decide ((colN : Int) < 0) = false := decide_eq_false hc0
    have e4 : decide (30 ≤ (colN : Int)) = false := decide_eq_false hc30
    clear HD HD2 hc0 hc30
    go_enter Try.func16, Try.ntmps16
    go_wp2_with (fail)
    refine (HC.out).mono ?_
    rintro e w2 ⟨rfl, hb⟩
    have HB2 := Lib.hid (HB1.out.trans (hb.mono HB1.out.size))
    clear hb HC HB1
    have C1 := Lib.hid (clone_any w2 A0 c0 p (H0.out.below HB2.out) (by omega))
    go_wp2_with (fail)
    refine (C1.out).mono ?_
    rintro e w3 ⟨v0, rfl, hv0, hb3⟩
    have HB3 := Lib.hid (HB2.out.trans (hb3.mono HB2.out.size))
    have HV0 := Lib.hid (own_lower hv0 HB2.out.size)
    clear hv0 hb3 HB2 C1
    have C2 := Lib.hid (clone_any w3 A1 c1 q (H1.out.below HB3.out) (by omega))
    go_wp2_with (fail)
    refine (C2.out).mono ?_
    rintro e w4 ⟨v1, rfl, hv1, hb4⟩
    have HB4 := Lib.hid (HB3.out.trans (hb4.mono HB3.out.size))
    have HAP : Hid (∀ k, v0.ownBlock = some k → v1.ownBlock ≠ some k) := Lib.hid (fun k h0 h1 => by have a := own_lt HV0.out k h0; have b := (hv1.lt k h1).1; omega)
    have HO0 := Lib.hid (show Own w4 w.heap.size v0 p from own_belowB HV0.out hb4)
    have HO1 := Lib.hid (show Own w4 w.heap.size v1 q from own_lower hv1 HB3.out.size)
    clear hv1 hb4 HB3 C2 HV0 e1 e3 e4
    have HH2 := Lib.hid (heap_alloc_new w4 (.cells #[.slice A3 (I o).length c3, .slice A4 (I m).length c4] 24))
    have HB5 := Lib.hid (HB4.out.trans ((balloc w4 (.cells #[.slice A3 (I o).length c3, .slice A4 (I m).length c4] 24)).mono HB4.out.size))
    have HO05 := Lib.hid (own_belowB HO0.out (balloc w4 (.cells #[.slice A3 (I o).length c3, .slice A4 (I m).length c4] 24)))
    have HO15 := Lib.hid (own_belowB HO1.out (balloc w4 (.cells #[.slice A3 (I o).length c3, .slice A4 (I m).length c4] 24)))
    clear HO0 HO1 HB4
    go_wp2_with (fail)
    generalize w4.alloc _ = w5 at *
    generalize w4.heap.size = H2 at *
    have e0p : tab p.length (gf 1 p o m 0) = p := tab_self p
    have e0q : tab p.length (gf (Math.e colN) q o m 0) = q := by rw [← hq]; exact tab_self q
    have HE0P := Lib.hid e0p
    have HE0Q := Lib.hid e0q
    clear e0p e0q
    go_loopg [46] (2) (fun q' v46 wr => ∃ j : Nat, j ≤ 2 ∧ v46 = .int .i64 (j : Int) ∧ q' = 2 - j ∧ Own wr w.heap.size v0 (tab p.length (gf 1 p o m j)) ∧ Own wr w.heap.size v1 (tab p.length (gf (Math.e colN) q o m j)) ∧ Below w.heap.size w wr ∧ wr.heap[H2]? = some (.cells #[.slice A3 (I o).length c3, .slice A4 (I m).length c4] 24 (0, 0)))
    case atStart => exact ⟨0, by omega, rfl, rfl, by rw [HE0P.out]; exact HO05.out, by rw [HE0Q.out]; exact HO15.out, HB5.out, HH2.out⟩
    case round =>
      obtain ⟨j, hj, rfl, hqq, ho0, ho1, hb, hh2⟩ := hrel
      clear HO05 HO15 HB5 HH2
      have HQ := Lib.hid hqq
      have HO0 := Lib.hid ho0
      have HO1 := Lib.hid ho1
      have HB := Lib.hid hb
      have HH2 := Lib.hid hh2
      clear hqq ho0 ho1 hb hh2
      rcases (show j = 0 ∨ j = 1 ∨ j = 2 by omega) with rfl | rfl | rfl
      · have c16 : wr.cell? ⟨H2, 0, none⟩ = some (.slice A3 (I o).length c3) := by rw [cell_of_heap HH2.out]; rfl
        have HA1 := Lib.hid (add_any w wr v0 p.length (gf 1 p o m 0) A3 c3 o 1 HB.out HO0.out (H3.out.below HB.out) k3 (far HO0.out H3.out) (fun k _ => gf_lt b0 b3 b4 (by decide) 0 k) b3 (by decide) (by omega) hn4)
        go_wp2_with (fail)
        refine (HA1.out).mono ?_
        rintro e wa ⟨rfl, ha1, ha2, ha3⟩
        have HO0a := Lib.hid ha1
        have HO1a := Lib.hid (own_far HO1.out ha3 (fun k hk h => HAP.out k h.symm hk))
        have HBa := Lib.hid ha2
        have HH2a := Lib.hid ((ha3.2 H2 (lt_of_heap HH2.out) (fun h => own_blk HO0.out HH2.out (by decide) h.symm)).trans HH2.out)
        clear ha1 ha2 ha3 HA1 HO0 HO1 HB HH2 c16
        have HE := Lib.hid (exp_any colN wa)
        go_wp2_with (fail)
        refine (HE.out).mono ?_
        rintro e wb ⟨rfl, hbb⟩
        have HO0b := Lib.hid (own_belowB HO0a.out hbb)
        have HO1b := Lib.hid (own_belowB HO1a.out hbb)
        have HBb := Lib.hid (HBa.out.trans (hbb.mono HBa.out.size))
        have HH2b := Lib.hid ((hbb.block _ (lt_of_heap HH2a.out)).trans HH2a.out)
        clear hbb HE HO0a HO1a HBa HH2a
        have HA2 := Lib.hid (add_any w wb v1 p.length (gf (Math.e colN) q o m 0) A3 c3 o (Math.e colN) HBb.out HO1b.out (H3.out.below HBb.out) k3 (far HO1b.out H3.out) (fun k _ => gf_lt b1 b3 b4 (Math.e_lt _) 0 k) b3 (Math.e_lt _) (by omega) hn4)
        go_wp2_with (fail)
        refine (HA2.out).mono ?_
        rintro e wc ⟨rfl, hc1, hc2, hc3⟩
        have HO1c := Lib.hid hc1
        have HO0c := Lib.hid (own_far HO0b.out hc3 (fun k hk h => HAP.out k hk h.symm))
        have HBc := Lib.hid hc2
        have HH2c := Lib.hid ((hc3.2 H2 (lt_of_heap HH2b.out) (fun h => own_blk HO1b.out HH2b.out (by decide) h.symm)).trans HH2b.out)
        clear hc1 hc2 hc3 HA2 HO0b HO1b HBb HH2b
        go_wp2_with (fail)
        go_roundg (1)
        case measure => have := HQ.out; omega
        case rel => exact ⟨1, by omega, by go_num, rfl, HO0c.out, HO1c.out, HBc.out, HH2c.out⟩
      · have c16 : wr.cell? ⟨H2, 1, none⟩ = some (.slice A4 (I m).length c4) := by rw [cell_of_heap HH2.out]; rfl
        have HA1 := Lib.hid (add_any w wr v0 p.length (gf 1 p o m 1) A4 c4 m 1 HB.out HO0.out (H4.out.below HB.out) k4 (far HO0.out H4.out) (fun k _ => gf_lt b0 b3 b4 (by decide) 1 k) b4 (by decide) (by omega) hn4)
        go_wp2_with (fail)
        refine (HA1.out).mono ?_
        rintro e wa ⟨rfl, ha1, ha2, ha3⟩
        have HO0a := Lib.hid ha1
        have HO1a := Lib.hid (own_far HO1.out ha3 (fun k hk h => HAP.out k h.symm hk))
        have HBa := Lib.hid ha2
        have HH2a := Lib.hid ((ha3.2 H2 (lt_of_heap HH2.out) (fun h => own_blk HO0.out HH2.out (by decide) h.symm)).trans HH2.out)
        clear ha1 ha2 ha3 HA1 HO0 HO1 HB HH2 c16
        have HE := Lib.hid (exp_any colN wa)
        go_wp2_with (fail)
        refine (HE.out).mono ?_
        rintro e wb ⟨rfl, hbb⟩
        have HO0b := Lib.hid (own_belowB HO0a.out hbb)
        have HO1b := Lib.hid (own_belowB HO1a.out hbb)
        have HBb := Lib.hid (HBa.out.trans (hbb.mono HBa.out.size))
        have HH2b := Lib.hid ((hbb.block _ (lt_of_heap HH2a.out)).trans HH2a.out)
        clear hbb HE HO0a HO1a HBa HH2a
        have HA2 := Lib.hid (add_any w wb v1 p.length (gf (Math.e colN) q o m 1) A4 c4 m (Math.e colN) HBb.out HO1b.out (H4.out.below HBb.out) k4 (far HO1b.out H4.out) (fun k _ => gf_lt b1 b3 b4 (Math.e_lt _) 1 k) b4 (Math.e_lt _) (by omega) hn4)
        go_wp2_with (fail)
        refine (HA2.out).mono ?_
        rintro e wc ⟨rfl, hc1, hc2, hc3⟩
        have HO1c := Lib.hid hc1
        have HO0c := Lib.hid (own_far HO0b.out hc3 (fun k hk h => HAP.out k hk h.symm))
        have HBc := Lib.hid hc2
        have HH2c := Lib.hid ((hc3.2 H2 (lt_of_heap HH2b.out) (fun h => own_blk HO1b.out HH2b.out (by decide) h.symm)).trans HH2b.out)
        clear hc1 hc2 hc3 HA2 HO0b HO1b HBb HH2b
        go_wp2_with (fail)
        go_roundg (0)
        case measure => have := HQ.out; omega
        case rel => exact ⟨2, by omega, by go_num, rfl, HO0c.out, HO1c.out, HBc.out, HH2c.out⟩
      · go_wp2_with (fail)
        go_ret3
        exact ⟨v0, v1, by rw [HRES.out]; rfl, by rw [HRES.out]; exact HO0.out, by rw [HRES.out]; exact HO1.out, HAP.out, HB.out⟩
end Go.Proofs.Ythjodjfjeamilaa.Wd
namespace Go.Proofs.Ythjodjfjeamilaa.Pur
open Go Go.RowKit Go.Proofs.YthjodjfjeamilaaW.PrintWords Go.Proofs.YthjodjfjeamilaaW.PrintLast Go.Proofs.YthjodjfjeamilaaW.PrintMore Go.Proofs.Ythjodjfjeamilaa.PA
/-- Numbers that are bytes. -/
def okb (l : List Int) : Bool := l.all fun x => decide (0 ≤ x) && decide (x < 256)
def nn (l : List Int) : List Nat := l.map Int.toNat
theorem I_nn {l : List Int} (h : okb l = true) : I (nn l) = l ∧ Byt (nn l) := by
  unfold okb at h
  rw [List.all_eq_true] at h
  constructor
  · unfold I nn
    rw [List.map_map]
    conv => rhs; rw [← List.map_id l]
    apply List.map_congr_left
    intro x hx
    have := h x hx
    simp at this
    show ((x.toNat : Nat) : Int) = x
    omega
  · intro y hy
    obtain ⟨x, hx, rfl⟩ := List.mem_map.1 hy
    have := h x hx
    simp at this
    omega
theorem nn_I (l : List Nat) : nn (I l) = l := by
  unfold I nn
  rw [List.map_map]
  conv => rhs; rw [← List.map_id l]
  exact List.map_congr_left fun x _ => rfl
theorem okb_I {l : List Nat} (h : Byt l) : okb (I l) = true := by
  unfold okb I
  rw [List.all_eq_true]
  intro x hx
  obtain ⟨n, hn, rfl⟩ := List.mem_map.1 hx
  have := h n hn
  simp
  omega
end Go.Proofs.Ythjodjfjeamilaa.Pur
namespace Go.Proofs.Ythjodjfjeamilaa.PA
open Go Go.RowKit Go.Proofs.YthjodjfjeamilaaW.PrintWords Go.Proofs.YthjodjfjeamilaaW.PrintLast Go.Proofs.YthjodjfjeamilaaW.PrintMore Go.Proofs.Ythjodjfjeamilaa.Pur
/-- What Delta answers. -/
def parity_Delta.f (l0 l1 : List Int) (a2 : Int) (l3 l4 : List Int) : Option (List Int × List Int × Int) :=
  if okb l0 && okb l1 && okb l3 && okb l4 then some (I (Wd.dlt (nn l0) (nn l1) a2 (nn l3) (nn l4)).1, I (Wd.dlt (nn l0) (nn l1) a2 (nn l3) (nn l4)).2.1, (Wd.dlt (nn l0) (nn l1) a2 (nn l3) (nn l4)).2.2) else none
theorem parity_Delta.calls (A0 : Option Addr) (c0 : Nat) (l0 : List Int) (A1 : Option Addr) (c1 : Nat) (l1 : List Int) (a2 : Int) (A3 : Option Addr) (c3 : Nat) (l3 : List Int) (A4 : Option Addr) (c4 : Nat) (l4 : List Int) (r1 r2 : List Int) (r3 : Int) (w : World)
    (hr0 : Kd.C (Kd.int .u8) w A0 l0.length l0) (hc0 : l0.length ≤ c0) (hr1 : Kd.C (Kd.int .u8) w A1 l1.length l1) (hc1 : l1.length ≤ c1) (hr3 : Kd.C (Kd.int .u8) w A3 l3.length l3) (hc3 : l3.length ≤ c3) (hr4 : Kd.C (Kd.int .u8) w A4 l4.length l4) (hc4 : l4.length ≤ c4) (h : parity_Delta.f l0 l1 a2 l3 l4 = some (r1, r2, r3)) :
    Calls Try.prog 16 #[.slice A0 l0.length c0, .slice A1 l1.length c1, .int .i64 a2, .slice A3 l3.length c3, .slice A4 l4.length c4] w fun e w' => ∃ v0_ v1_ : Value, e = .returned (.tuple #[v0_, v1_, .int .i64 r3]) ∧ Kd.R (Kd.int .u8) 5 w' w.heap.size (fun k_ => some k_ ≠ (v1_ : Value).ownBlock) v0_ r1 ∧ Kd.R (Kd.int .u8) 5 w' w.heap.size (fun k_ => some k_ ≠ (v0_ : Value).ownBlock) v1_ r2 ∧ Below w.heap.size w w' := by
  unfold parity_Delta.f at h
  by_cases hb : (okb l0 && okb l1 && okb l3 && okb l4) = true
  · rw [if_pos hb] at h
    simp only [Bool.and_eq_true] at hb
    obtain ⟨⟨⟨h0, h1⟩, h3⟩, h4⟩ := hb
    obtain ⟨e0, y0⟩ := I_nn h0
    obtain ⟨e1, y1⟩ := I_nn h1
    obtain ⟨e3, y3⟩ := I_nn h3
    obtain ⟨e4, y4⟩ := I_nn h4
    simp only [Option.some.injEq, Prod.mk.injEq] at h
    obtain ⟨rfl, rfl, rfl⟩ := h
    generalize nn l0 = p at *
    generalize nn l1 = q at *
    generalize nn l3 = o at *
    generalize nn l4 = m at *
    subst e0 e1 e3 e4
    refine (Wd.delta_any w A0 c0 p A1 c1 q a2 A3 c3 o A4 c4 m hr0 hc0 hr1 hc1 hr3 hc3 hr4 hc4 y0 y1 y3 y4).mono ?_
    rintro e w' ⟨v0, v1, he, g0, g1, g2, g3⟩
    exact ⟨v0, v1, he, Wd.own_R g0 (fun k hk h => g2 k hk h.symm), Wd.own_R g1 (fun k hk h => g2 k h.symm hk), g3⟩
  · rw [if_neg hb] at h
    cases h
end Go.Proofs.Ythjodjfjeamilaa.PA
