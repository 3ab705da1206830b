/- Plain mathematics for DlmApart and DlmTurns: tickets of given steps, of which some are gone; who is granted; what stays granted. -/
import Derived.Test.YtgegkebbbpapiaaAsked
namespace Go.Proofs.Ytgegkebbbpapiaa.Dlm
/-- The tickets of G, gone where gn says so. -/
def tkg (o : Op5) (b : Bool) : Tk := ⟨o.owner, o.lo, o.hi, o.alone, b⟩
def TG (G : List Op5) (gn : List Bool) : List Tk := List.zipWith tkg G gn
def gf (gn : List Bool) (i : Nat) : Bool := gn.getD i false
def Go (G : List Op5) (i : Nat) : Op5 := G.getD i ⟨0, 0, 0, 0, false⟩
/-- Do steps i and j conflict? -/
def cfl (G : List Op5) (j i : Nat) : Bool := conf (Go G j).tk (Go G i).tk
def waits (G : List Op5) (gn : List Bool) (i : Nat) : Bool := (List.range i).any fun j => !gf gn j && cfl G j i
section
variable {G : List Op5} {gn : List Bool}
theorem TG_length (h : gn.length = G.length) : (TG G gn).length = G.length := by simp [TG, h]
theorem Go_at {i : Nat} {o : Op5} (h : G[i]? = some o) : Go G i = o := by simp [Go, List.getD_eq_getElem?_getD, h]
theorem gf_at {i : Nat} {b : Bool} (h : gn[i]? = some b) : gf gn i = b := by simp [gf, List.getD_eq_getElem?_getD, h]
theorem at_Go {i : Nat} (h : i < G.length) : G[i]? = some (Go G i) := by
  rw [List.getElem?_eq_getElem h]; simp [Go, List.getD_eq_getElem?_getD, h]
theorem at_gf {i : Nat} (h : i < gn.length) : gn[i]? = some (gf gn i) := by
  rw [List.getElem?_eq_getElem h]; simp [gf, List.getD_eq_getElem?_getD, h]
theorem TG_at (hl : gn.length = G.length) {i : Nat} (h : i < G.length) : (TG G gn)[i]? = some (tkg (Go G i) (gf gn i)) := by
  simp only [TG, List.getElem?_zipWith, at_Go h, at_gf (show i < gn.length by omega)]
theorem TG_start : TG G (List.replicate G.length false) = G.map Op5.tk := by
  apply List.ext_getElem?
  intro i
  by_cases h : i < G.length
  · rw [TG_at (by simp) h, List.getElem?_map, at_Go h]
    simp [gf, List.getD_eq_getElem?_getD, h, tkg, Op5.tk]
  · rw [List.getElem?_eq_none (by rw [TG_length (by simp)]; omega), List.getElem?_eq_none (by simp; omega)]
theorem TG_gone (hl : gn.length = G.length) {k : Nat} (h : k < G.length) : gone (TG G gn) k = TG G (gn.set k true) := by
  unfold gone
  rw [TG_at hl h]
  simp only
  apply List.ext_getElem?
  intro i
  rw [List.getElem?_set, TG_length hl]
  by_cases hi : i < G.length
  · rw [TG_at (gn := gn.set k true) (by simp [hl]) hi]
    by_cases hik : k = i
    · subst hik
      rw [if_pos rfl, if_pos h]
      simp [gf, List.getD_eq_getElem?_getD, tkg, hl, h]
    · rw [if_neg hik, TG_at hl hi]
      simp [gf, List.getD_eq_getElem?_getD, hik]
  · rw [if_neg (by omega), List.getElem?_eq_none (by rw [TG_length hl]; omega), List.getElem?_eq_none (by rw [TG_length (by simp [hl])]; omega)]
theorem busy_TG (hl : gn.length = G.length) {i : Nat} (h : i < G.length) : busy ((TG G gn).take i) (tkg (Go G i) (gf gn i)) = waits G gn i := by
  have key : ∀ j, j ≤ i → busy ((TG G gn).take j) (tkg (Go G i) (gf gn i)) = (List.range j).any fun j => !gf gn j && cfl G j i := by
    intro j
    induction j with
    | zero => intro _; rfl
    | succ j ih =>
      intro hj
      rw [List.take_add_one, TG_at hl (by omega), List.range_succ, List.any_append, ← ih (by omega)]
      unfold busy
      rw [List.any_append]
      simp [tkg, cfl, conf, Op5.tk]
      rfl
  exact key i (Nat.le_refl _)
theorem st_TG (hl : gn.length = G.length) {i : Nat} (h : i < G.length) : stOf (TG G gn) i = if gf gn i then 3 else live (waits G gn i) := by
  have hst : stOf (TG G gn) i = if gf gn i then 3 else live (busy ((TG G gn).take i) (tkg (Go G i) (gf gn i))) := by unfold stOf; rw [TG_at hl h]; rfl
  rw [hst, busy_TG hl h]
/-- Is ticket i granted? -/
def gr (G : List Op5) (gn : List Bool) (i : Nat) : Bool := !gf gn i && !waits G gn i
theorem st_gr (hl : gn.length = G.length) {i : Nat} (h : i < G.length) : (stOf (TG G gn) i == 2) = gr G gn i := by
  rw [st_TG hl h, gr]
  cases gf gn i <;> cases waits G gn i <;> rfl
theorem st_3 (hl : gn.length = G.length) {i : Nat} (h : i < G.length) : (stOf (TG G gn) i = 3) ↔ gf gn i = true := by
  rw [st_TG hl h]
  cases gf gn i <;> cases waits G gn i <;> simp [live]
theorem gf_set {k i : Nat} (hk : k < gn.length) : gf (gn.set k true) i = (gf gn i || decide (i = k)) := by
  by_cases h : i = k
  · subst h; simp [gf, List.getD_eq_getElem?_getD, hk]
  · have : k ≠ i := fun e => h e.symm
    simp [gf, List.getD_eq_getElem?_getD, h, this]
theorem waits_mono {k i : Nat} (hk : k < gn.length) (h : waits G gn i = false) : waits G (gn.set k true) i = false := by
  unfold waits at h ⊢
  rw [List.any_eq_false] at h ⊢
  intro j hj
  have := h j hj
  rw [gf_set hk]
  cases h1 : gf gn j <;> cases h2 : cfl G j i <;> simp_all
/-- What is granted stays granted, whatever goes but itself. -/
theorem gr_mono {k i : Nat} (hk : k < gn.length) (h : gr G gn i = true) : gf (gn.set k true) i = true ∨ gr G (gn.set k true) i = true := by
  unfold gr at h ⊢
  rw [Bool.and_eq_true] at h
  have hw := waits_mono (G := G) (i := i) hk (by simpa using h.2)
  rw [hw]
  cases gf (gn.set k true) i <;> simp
/-- Granted tickets don't conflict. -/
theorem gr_apart {a b : Nat} (hb : b < a) (h1 : gr G gn a = true) (h2 : gr G gn b = true) : cfl G b a = false := by
  unfold gr at h1 h2
  rw [Bool.and_eq_true] at h1 h2
  have h3 : waits G gn a = false := by simpa using h1.2
  have h4 : gf gn b = false := by simpa using h2.1
  unfold waits at h3
  rw [List.any_eq_false] at h3
  have := h3 b (List.mem_range.2 hb)
  rw [h4] at this
  simpa using this
/-- The first that is not gone is granted. -/
def firstTo (gn : List Bool) (a : Nat) : Bool := (List.range a).all fun j => gf gn j
theorem firstTo_succ (a : Nat) : firstTo gn (a + 1) = (firstTo gn a && gf gn a) := by simp [firstTo, List.range_succ, List.all_append]
theorem first_gr {a : Nat} (h : firstTo gn a = true) (hg : gf gn a = false) : gr G gn a = true := by
  unfold gr
  have : waits G gn a = false := by
    unfold waits
    rw [List.any_eq_false]
    intro j hj
    unfold firstTo at h
    rw [List.all_eq_true] at h
    rw [h j hj]
    simp
  rw [this, hg]
  rfl
theorem those_TG (hl : gn.length = G.length) : those (TG G gn) 2 G.length = (List.range G.length).filter (gr G gn) := by
  unfold those
  apply List.filter_congr
  intro i hi
  exact st_gr hl (List.mem_range.1 hi)
end
end Go.Proofs.Ytgegkebbbpapiaa.Dlm
