/- Commands, as plain data and in memory; Clone and Plain. -/
import Derived.Test.YtjpdjhmajjbgmaaWord
namespace Go.Proofs.Ytjpdjhmajjbgmaa.Wd
open Go.RowKit
set_option linter.unusedVariables false
set_option linter.unusedSimpArgs false
/-- A command: its sectors are the bytes bs, sixteen for each of n. -/
structure Cmd where
  kind : Int
  lba : Int
  count : Int
  n : Nat
  bs : List Int
  key : Int
  res : Int
  keep : Bool
def u8s (bs : List Int) : List Value := bs.map (.int .u8)
theorem u8s_one (bs : List Int) : ∀ y ∈ u8s bs, y.oneCell' = true := by
  intro y hy
  unfold u8s at hy
  rw [List.mem_map] at hy
  obtain ⟨x, _, rfl⟩ := hy
  rfl
def Cmd.val (c : Cmd) (dv : Value) : Value := .agg #[.int .i64 c.kind, .int .i64 c.lba, .int .i64 c.count, dv, .int .u64 c.key, .int .i64 c.res, .bool c.keep]
def Cmd.hasData (c : Cmd) : Bool := c.kind == 3 || c.kind == 5
/-- The plain command. -/
def Cmd.plain (c : Cmd) : Cmd :=
  ⟨c.kind, if c.kind = 2 ∨ c.kind = 6 ∨ c.kind = 3 ∨ c.kind = 5 then c.lba else 0, if c.kind = 2 ∨ c.kind = 6 then c.count else 0,
    if c.kind = 3 ∨ c.kind = 5 then c.n else 0, if c.kind = 3 ∨ c.kind = 5 then c.bs else [],
    if c.kind = 7 ∨ c.kind = 11 then c.key else 0, if c.kind = 8 then c.res else 0, if c.kind = 7 then c.keep else false⟩
/-- A command's sectors, read; one's own. -/
def Secs (w : World) (dv : Value) (c : Cmd) : Prop := Rd w dv c.n 16 (u8s c.bs)
def Own (w : World) (base : Nat) (dv : Value) (c : Cmd) : Prop := w.ownsRow base 24 16 dv c.n (u8s c.bs)
theorem Own.secs {w : World} {base : Nat} {dv : Value} {c : Cmd} (h : Own w base dv c) : Secs w dv c := Rd.of_own h
theorem info41 : (Try.prog.info? 24).map (fun i => (i.zero, i.size, i.bytes)) = some (some (.agg (Array.replicate 16 (.int .u8 0))), 16, 16) := by kernel_rfl
theorem cat_secs (w : World) (base : Nat) (v : Value) (n : Nat) (xs : List Value) (u : Value) (m : Nat) (ys : List Value) (hown : w.ownsRow base 24 16 v n xs) (hu : Rd w u m 16 ys) (h1 : ∀ y ∈ ys, y.oneCell' = true) (hl : (n + m) * 16 ≤ 140737488355328) (hbase : base ≤ w.heap.size) :
    ∃ v' w', (Builtin.append_ #[22, 22] 22 #[v, u]).run Try.prog w = .ok v' w' ∧ w'.ownsRow base 24 16 v' (n + m) (xs ++ ys) ∧ w.grownBy w' v.ownBlock ∧ (v'.ownBlock = v.ownBlock ∨ v'.ownBlock = some w.heap.size) := by
  obtain ⟨i0, hi0, hz0, hz1, hz2⟩ := info_parts info41
  exact run_cat w base 22 24 i0 _ 16 16 Try.underlying22 hi0 hz0 hz1 hz2 rfl (by omega) v n xs u m ys hown hu h1 hl (by unfold maxLen; omega) hbase
/-- A copy behind an empty row. -/
theorem copy_secs (w : World) (u : Value) (m : Nat) (ys : List Value) (hu : Rd w u m 16 ys) (h1 : ∀ y ∈ ys, y.oneCell' = true) (hl : m * 16 ≤ 140737488355328) :
    ∃ v' w', (Builtin.append_ #[22, 22] 22 #[.slice (some ⟨w.heap.size, 0, none⟩) 0 0, u]).run Try.prog (w.alloc (.cells #[] 24)) = .ok v' w' ∧ w'.ownsRow w.heap.size 24 16 v' m ys ∧ Below w.heap.size w w' ∧ v' ≠ .slice none 0 0 := by
  have B1 : Below w.heap.size w (w.alloc (.cells #[] 24)) := balloc w _
  have O1 : (w.alloc (.cells #[] 24)).ownsRow w.heap.size 24 16 (.slice (some ⟨w.heap.size, 0, none⟩) 0 0) 0 [] := World.ownsRow_lit w #[] 0 (Nat.le_refl _) (by unfold maxLen; omega) rfl
  have R1 := cat_secs (w.alloc (.cells #[] 24)) w.heap.size _ 0 [] u m ys O1 (hu.below B1) h1 (by omega) (by simp)
  rw [Nat.zero_add, List.nil_append] at R1
  obtain ⟨v1, w1, hr1, hown1, hg1, hb1⟩ := R1
  refine ⟨v1, w1, hr1, hown1, B1.grown hg1 (by simp) (fun q hq => by simp [Value.ownBlock] at hq; omega), ?_⟩
  rintro rfl
  rcases hb1 with h | h <;> simp [Value.ownBlock] at h
theorem cmp_nil : ∀ W : World, (binOp BinOp.eql 22 (Value.slice none 0 0) (Value.slice none 0 0)).run Try.prog W = .ok (.bool true) W := fun W => by kernel_rfl
theorem cmp_some (a : Addr) (n cap : Nat) : ∀ W : World, (binOp BinOp.eql 22 (Value.slice (some a) n cap) (Value.slice none 0 0)).run Try.prog W = .ok (.bool false) W := fun W => by kernel_rfl
theorem clone_any (w : World) (u : Value) (m : Nat) (ys : List Value) (hu : Rd w u m 16 ys) (h1 : ∀ y ∈ ys, y.oneCell' = true) (hl : m * 16 ≤ 140737488355328) :
    Calls Try.prog 20 #[u] w fun e w' => ∃ v', e = .returned v' ∧ w'.ownsRow w.heap.size 24 16 v' m ys ∧ Below w.heap.size w w' := by
  obtain ⟨v1, w1, hr1, ho1, hb1, _⟩ := copy_secs w u m ys hu h1 hl
  have HR := Lib.hid hr1
  have HO := Lib.hid ho1
  have HB := Lib.hid hb1
  clear hr1 ho1 hb1
  obtain ⟨h0, A, cap, rfl, hn, hc, hz, h2⟩ := hu
  cases A with
  | none =>
    have hc0 := hz rfl
    subst hc0
    obtain rfl : m = 0 := by omega
    have hy : ys = [] := List.eq_nil_of_length_eq_zero (by rw [h0, Nat.zero_mul])
    subst hy
    have hcmp := cmp_nil
    go_enter Try.func20, Try.ntmps20
    go_wp2_with (fail)
    go_ret
    exact ⟨_, rfl, World.ownsRow_nil _ _ _ _, Below.refl _ _⟩
  | some a =>
    clear h2 hz
    have hcmp := cmp_some a m cap
    go_enter Try.func20, Try.ntmps20
    go_wp2_with (first | (at_builtin; refine wpList_append_ran rfl (.tmp 5) (.tmp 6) 22 rfl _ _ rfl rfl v1 w1 HR.out ?_))
    go_ret
    exact ⟨_, rfl, HO.out, HB.out⟩
theorem three_mid (w : World) (a b c : Obj) : (((w.alloc a).alloc b).alloc c).heap[w.heap.size + 1]? = some b := by
  have e : w.heap.size + 1 = (w.alloc a).heap.size := by simp
  rw [e]
  exact (Below.heap_alloc _ _ _ (by simp)).trans (heap_alloc_new _ _)
theorem three_below (w : World) (a b c : Obj) : Below w.heap.size w (((w.alloc a).alloc b).alloc c) := (((Below.refl _ _).alloc (Nat.le_refl _) _).alloc (by simp) _).alloc (by simp; omega) _
theorem row_one (a b c : Int) (A : Option Addr) (n cap : Nat) (k r : Int) (p : Bool) : (#[.int .i64 a, .int .i64 b, .int .i64 c, .slice A n cap, .int .u64 k, .int .i64 r, .bool p] : Array Value).all (·.oneCell') = true := by simp [Value.oneCell']
theorem three_first (w : World) (a b c : Obj) : (((w.alloc a).alloc b).alloc c).drew.heap[w.heap.size]? = some a :=
  (Below.heap_alloc _ _ _ (by simp; omega)).trans ((Below.heap_alloc _ _ _ (by simp)).trans (heap_alloc_new _ _))
theorem three_last (w : World) (a b c : Obj) : (((w.alloc a).alloc b).alloc c).heap[w.heap.size + 2]? = some c := by
  have e : w.heap.size + 2 = ((w.alloc a).alloc b).heap.size := by simp
  rw [e]
  exact heap_alloc_new _ _
end Go.Proofs.Ytjpdjhmajjbgmaa.Wd
