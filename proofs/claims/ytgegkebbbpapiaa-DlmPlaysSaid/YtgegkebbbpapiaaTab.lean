/- Words for the lock table in memory: a ticket's five cells, a row of tickets, a table (one cell that holds a slice of tickets); and frames: which blocks alone have turned. -/
import Derived.Test.YtgegkebbbpapiaaProg
import Derived.WalkKit
import Derived.OwnWalk
import Derived.Below
import Derived.Laws.OwnMore
import Derived.Deep.AppendLies
import Derived.Deep.Draws
import Derived.Deep.OwnRows
namespace Go.Proofs.Ytgegkebbbpapiaa.Dlm
open Go.RowKit
structure Tk where
  owner : Int
  lo : Int
  hi : Int
  alone : Bool
  gone : Bool
def Tk.cells (t : Tk) : List Value := [.int .i64 t.owner, .int .i64 t.lo, .int .i64 t.hi, .bool t.alone, .bool t.gone]
def Tk.val (t : Tk) : Value := .agg #[.int .i64 t.owner, .int .i64 t.lo, .int .i64 t.hi, .bool t.alone, .bool t.gone]
def tks (ts : List Tk) : List Value := ts.flatMap Tk.cells
theorem tks_length (ts : List Tk) : (tks ts).length = ts.length * 5 := by
  induction ts with
  | nil => rfl
  | cons t ts ih => simp only [tks, List.flatMap_cons, List.length_append, List.length_cons] at ih ⊢; rw [ih]; simp [Tk.cells]; omega
theorem tks_at (ts : List Tk) (i : Nat) (t : Tk) (h : ts[i]? = some t) (j : Nat) (hj : j < 5) : (tks ts)[i * 5 + j]? = t.cells[j]? := by
  induction ts generalizing i with
  | nil => simp at h
  | cons x ts ih =>
    have hx : x.cells.length = 5 := rfl
    cases i with
    | zero =>
      simp at h; subst h
      simp only [tks, List.flatMap_cons]
      rw [List.getElem?_append_left (by omega), Nat.zero_mul, Nat.zero_add]
    | succ i =>
      simp only [List.getElem?_cons_succ] at h
      simp only [tks, List.flatMap_cons]
      rw [List.getElem?_append_right (by omega), hx, show (i + 1) * 5 + j - 5 = i * 5 + j from by omega]
      exact ih i h
theorem tks_set (ts : List Tk) (i : Nat) (t : Tk) (h : ts[i]? = some t) : (tks ts).set (i * 5 + 4) (.bool true) = tks (ts.set i { t with gone := true }) := by
  induction ts generalizing i with
  | nil => simp at h
  | cons x ts ih =>
    have hx : x.cells.length = 5 := rfl
    cases i with
    | zero => simp at h; subst h; rfl
    | succ i =>
      simp only [List.getElem?_cons_succ] at h
      simp only [tks, List.flatMap_cons, List.set_cons_succ] at ih ⊢
      rw [List.set_append_right _ _ (by omega), hx, show (i + 1) * 5 + 4 - 5 = i * 5 + 4 from by omega, ih i h]
theorem tks_append (ts us : List Tk) : tks (ts ++ us) = tks ts ++ tks us := by simp [tks]

/-- What a walk may turn: the blocks of S alone, and what is new. -/
structure Only (S : List Nat) (w w' : World) : Prop where
  os : w'.os = w.os
  tape : w'.tape = w.tape
  output : w'.output = w.output
  size : w.heap.size ≤ w'.heap.size
  block : ∀ k, k < w.heap.size → k ∉ S → w'.heap[k]? = w.heap[k]?
theorem Only.refl (S : List Nat) (w : World) : Only S w w := ⟨rfl, rfl, rfl, Nat.le_refl _, fun _ _ _ => rfl⟩
theorem Only.of_below {w w' : World} (h : Below w.heap.size w w') (S : List Nat) : Only S w w' := ⟨h.os, h.tape, h.output, h.size, fun k hk _ => h.block k hk⟩
theorem Only.trans {S T : List Nat} {a b c : World} (h : Only S a b) (k : Only T b c) (hT : ∀ x ∈ T, x ∈ S ∨ a.heap.size ≤ x) : Only S a c :=
  ⟨k.os.trans h.os, k.tape.trans h.tape, k.output.trans h.output, Nat.le_trans h.size k.size, fun i hi hn => by
    rw [k.block i (Nat.lt_of_lt_of_le hi h.size) (fun hm => by rcases hT i hm with h1 | h1; · exact hn h1
                                                               · omega), h.block i hi hn]⟩
theorem Only.below {S : List Nat} {B : Nat} {a w w' : World} (hb : Below B a w) (h : Only S w w') (hB : B ≤ w.heap.size) (hS : ∀ x ∈ S, B ≤ x) : Below B a w' :=
  hb.trans ⟨h.os, h.tape, h.output, h.size, fun k hk => h.block k (by omega) (fun hm => by have := hS k hm; omega)⟩
theorem Only.grown {w w' : World} {r : Option Nat} (h : w.grownBy w' r) : Only r.toList w w' :=
  ⟨h.os, h.tape, h.output, h.size, fun k hk hn => h.block k hk (fun e => hn (by rw [← e]; simp))⟩
theorem Only.mono {S T : List Nat} {w w' : World} (h : Only S w w') (hs : ∀ x ∈ S, x ∈ T) : Only T w w' :=
  ⟨h.os, h.tape, h.output, h.size, fun k hk hn => h.block k hk (fun hm => hn (hs k hm))⟩
theorem Only.set {w : World} {p : Addr} (u : Value) : Only [p.block] w (w.setCell p u) :=
  ⟨rfl, rfl, rfl, by simp [World.setCell], fun k _ hn => Below.heap_setCell w p u k (by simpa using hn)⟩

/-- A row of tickets; a table at block g. -/
def Row (w : World) (base : Nat) (v : Value) (ts : List Tk) : Prop := w.ownsRow base 60 5 v ts.length (tks ts)
def Tab (w : World) (g : Nat) (v : Value) (ts : List Tk) : Prop := w.heap[g]? = some (.cells #[v] 57 (0, 0)) ∧ Row w (g + 1) v ts
theorem lt_of_heap {w : World} {g : Nat} {o : Obj} (h : w.heap[g]? = some o) : g < w.heap.size := by
  rcases Nat.lt_or_ge g w.heap.size with hlt | hge
  · exact hlt
  · rw [Array.getElem?_eq_none hge] at h; cases h
theorem cell_of_heap {w : World} {g : Nat} {cs : Array Value} {t : TypeId} (h : w.heap[g]? = some (.cells cs t (0, 0))) (i : Nat) : w.cell? ⟨g, i, none⟩ = cs[i]? := by
  simp [World.cell?, h]
theorem frozen_of_heap {w : World} {g : Nat} {cs : Array Value} {t : TypeId} (h : w.heap[g]? = some (.cells cs t (0, 0))) (i : Nat) : w.frozen? ⟨g, i, none⟩ = false := by
  simp [World.frozen?, h]
theorem heap_set {w : World} {g : Nat} {cs : Array Value} {t : TypeId} (h : w.heap[g]? = some (.cells cs t (0, 0))) (i : Nat) (u : Value) : (w.setCell ⟨g, i, none⟩ u).heap[g]? = some (.cells (cs.setIfInBounds i u) t (0, 0)) := by
  simp [World.setCell, Array.getElem?_modify, h]
theorem own_kept {w w' : World} {base : Nat} {e : TypeId} {size : Nat} {v : Value} {n : Nat} {xs : List Value} (h : w.ownsRow base e size v n xs) {S : List Nat} (ho : Only S w w') (hS : ∀ k, v.ownBlock = some k → k ∉ S) : w'.ownsRow base e size v n xs := by
  obtain ⟨h1, h2⟩ := h
  refine ⟨h1, ?_⟩
  rcases h2 with h2 | ⟨g, cap, cur, hv, hg, hh, r⟩
  · exact .inl h2
  · exact .inr ⟨g, cap, cur, hv, hg, by rw [ho.block g (lt_of_heap hh) (hS g (by rw [hv]; rfl))]; exact hh, r⟩
theorem Tab.lt {w : World} {g : Nat} {v : Value} {ts : List Tk} (h : Tab w g v ts) : g < w.heap.size := lt_of_heap h.1
theorem Tab.kept {w w' : World} {g : Nat} {v : Value} {ts : List Tk} {S : List Nat} (h : Tab w g v ts) (ho : Only S w w') (hg : g ∉ S) (hS : ∀ k, v.ownBlock = some k → k ∉ S) : Tab w' g v ts :=
  ⟨by rw [ho.block g h.lt hg]; exact h.1, own_kept h.2 ho hS⟩
theorem Tab.below {w w' : World} {g : Nat} {v : Value} {ts : List Tk} (h : Tab w g v ts) (hb : Below w.heap.size w w') : Tab w' g v ts :=
  h.kept (Only.of_below hb []) (by simp) (by simp)
/-- The five cells of ticket i, as the walk spells their places. -/
theorem Row.cells {w : World} {base : Nat} {r n cap : Nat} {ts : List Tk} (h : Row w base (.slice (some ⟨r, 0, none⟩) n cap) ts) {i : Nat} {t : Tk} (hi : ts[i]? = some t) :
    w.cell? ⟨r, i * 5, none⟩ = some (.int .i64 t.owner) ∧ w.cell? ⟨r, i * 5 + 1, none⟩ = some (.int .i64 t.lo) ∧ w.cell? ⟨r, i * 5 + 2, none⟩ = some (.int .i64 t.hi) ∧
    w.cell? ⟨r, i * 5 + 3, none⟩ = some (.bool t.alone) ∧ w.cell? ⟨r, i * 5 + 4, none⟩ = some (.bool t.gone) := by
  have hl : i < ts.length := (List.getElem?_eq_some_iff.1 hi).1
  have hn : n = ts.length := by
    rcases h.2 with ⟨hv, h0⟩ | ⟨g, c, cur, hv, _⟩
    · cases hv
    · injection hv
  subst hn
  have key : ∀ j, j < 5 → w.cell? ⟨r, i * 5 + j, none⟩ = t.cells[j]? := fun j hj => by
    rw [h.cellAt (i * 5 + j) (by omega), tks_at ts i t hi j hj]
  exact ⟨key 0 (by omega), key 1 (by omega), key 2 (by omega), key 3 (by omega), key 4 (by omega)⟩
theorem Row.nil_or {w : World} {base : Nat} {v : Value} {ts : List Tk} (h : Row w base v ts) : (v = .slice none 0 0 ∧ ts = []) ∨ ∃ r cap, v = .slice (some ⟨r, 0, none⟩) ts.length cap ∧ base ≤ r ∧ r < w.heap.size ∧ ts.length ≤ cap ∧ cap ≤ maxLen := by
  rcases h.2 with ⟨hv, h0⟩ | ⟨g, cap, cur, hv, hb, hh, hn, hc, _⟩
  · exact .inl ⟨hv, List.eq_nil_of_length_eq_zero h0⟩
  · exact .inr ⟨g, cap, hv, hb, lt_of_heap hh, hn, hc⟩
end Go.Proofs.Ytgegkebbbpapiaa.Dlm
