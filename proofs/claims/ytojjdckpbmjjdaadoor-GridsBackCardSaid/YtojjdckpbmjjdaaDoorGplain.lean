/- Plain: what a screen shows: when its rows may be. No program in sight. -/
import Derived.Test.YtojjdckpbmjjdaaDoorWplain
namespace Go.Proofs.YtojjdckpbmjjdaaDoor

/-- A cell. -/
structure Cl where
  r : Int
  w : Int
  fg : Int
  bo : Bool
  un : Bool
  iv : Bool
deriving DecidableEq
def blankC : Cl := ⟨32, 1, 0, false, false, false⟩
def halfC (c : Cl) : Cl := ⟨0, 0, c.fg, c.bo, c.un, c.iv⟩
def styC (c : Cl) : Bool := decide (0 ≤ c.fg ∧ c.fg ≤ 8)
def styE (c d : Cl) : Bool := decide (c.fg = d.fg) && (c.bo == d.bo) && (c.un == d.un) && (c.iv == d.iv)
/-- May a cell be, between its neighbors in the row? -/
def cellB (p : Option Cl) (c : Cl) (n : Option Cl) : Bool :=
  styC c && decide (0 ≤ c.w ∧ c.w ≤ 2) && (decide (c.w = 0) || decide (cells c.r = c.w)) && (decide (c.w ≠ 2) || n.any fun d => decide (d.w = 0)) && (decide (c.w ≠ 0) || p.any fun d => decide (d.w = 2) && decide (c.r = 0) && styE c d)
def okFrom (p : Option Cl) : List Cl → Bool
  | [] => true
  | c :: t => cellB p c t.head? && okFrom (some c) t
/-- The program's way: rune by rune. -/
def rowB : List Cl → Bool
  | [] => true
  | [c] => decide (c.w = 1) && decide (cells c.r = 1) && styC c
  | c :: d :: t => if c.w = 1 then decide (cells c.r = 1) && styC c && rowB (d :: t) else if c.w = 2 then decide (cells c.r = 2) && styC c && decide (d = halfC c) && rowB t else false
theorem half_iff (c d : Cl) : d = halfC c ↔ d.w = 0 ∧ d.r = 0 ∧ styE d c = true := by
  obtain ⟨r, w, fg, bo, un, iv⟩ := d
  simp only [halfC, styE, Cl.mk.injEq, Bool.and_eq_true, decide_eq_true_eq, beq_iff_eq]
  constructor
  · rintro ⟨a, b, c, d, e, f⟩; exact ⟨b, a, ⟨⟨c, d⟩, e⟩, f⟩
  · rintro ⟨b, a, ⟨⟨c, d⟩, e⟩, f⟩; exact ⟨a, b, c, d, e, f⟩
theorem sty_eq {c d : Cl} (h : styE d c = true) : styC d = styC c := by
  simp only [styE, Bool.and_eq_true, decide_eq_true_eq] at h
  unfold styC
  rw [h.1.1.1]
theorem cell_1 {p n : Option Cl} {c : Cl} (h : c.w = 1) : cellB p c n = (decide (cells c.r = 1) && styC c) := by
  unfold cellB
  rw [h]
  cases styC c <;> simp
theorem cell_2 {p n : Option Cl} {c : Cl} (h : c.w = 2) : cellB p c n = (decide (cells c.r = 2) && styC c && n.any fun d => decide (d.w = 0)) := by
  unfold cellB
  rw [h]
  cases styC c <;> simp
theorem cell_0 {p n : Option Cl} {c : Cl} (h : c.w = 0) : cellB p c n = (styC c && p.any fun d => decide (d.w = 2) && decide (c.r = 0) && styE c d) := by
  unfold cellB
  rw [h]
  cases styC c <;> simp
theorem cell_bad {p n : Option Cl} {c : Cl} (h : c.w < 0 ∨ 2 < c.w) : cellB p c n = false := by
  unfold cellB
  have : decide (0 ≤ c.w ∧ c.w ≤ 2) = false := by simp; omega
  rw [this]; simp
theorem row_ok : ∀ (l : List Cl) (p : Option Cl), (∀ d, p = some d → d.w ≠ 2) → rowB l = okFrom p l
  | [], p, hp => rfl
  | [c], p, hp => by
    simp only [rowB, okFrom, List.head?_nil, Bool.and_true]
    by_cases h1 : c.w = 1
    · rw [cell_1 h1, h1]; simp
    by_cases h2 : c.w = 2
    · rw [cell_2 h2, h2]; simp
    by_cases h0 : c.w = 0
    · rw [cell_0 h0, h0]
      cases p with
      | none => simp
      | some d => have := hp d rfl; simp [this]
    · rw [cell_bad (by omega)]; simp [h1]
  | c :: d :: t, p, hp => by
    rw [rowB, okFrom, List.head?_cons]
    by_cases h1 : c.w = 1
    · rw [if_pos h1, cell_1 h1, row_ok (d :: t) (some c) (fun e he => by injection he with he; subst he; omega)]
    rw [if_neg h1]
    by_cases h2 : c.w = 2
    · rw [if_pos h2, cell_2 h2, okFrom]
      simp only [Option.any_some]
      by_cases hd : d = halfC c
      · have h3 := (half_iff c d).1 hd
        rw [cell_0 h3.1, decide_eq_true hd, decide_eq_true h3.1, row_ok t (some d) (fun e he => by injection he with he; subst he; omega)]
        rw [sty_eq h3.2.2]
        simp only [Option.any_some, h2, h3.2.1, h3.2.2, decide_true, Bool.and_true]
        cases styC c <;> simp
      · rw [decide_eq_false hd]
        by_cases h3 : d.w = 0
        · have h4 : ¬ (d.r = 0 ∧ styE d c = true) := fun h => hd ((half_iff c d).2 ⟨h3, h⟩)
          rw [cell_0 h3]
          simp only [Option.any_some, h2, decide_true, Bool.true_and]
          have : (decide (d.r = 0) && styE d c) = false := by
            cases hs : styE d c
            · simp
            · simp; intro hr; exact h4 ⟨hr, hs⟩
          rw [this]; simp
        · rw [decide_eq_false h3]; simp
    rw [if_neg h2]
    by_cases h0 : c.w = 0
    · rw [cell_0 h0]
      cases p with
      | none => simp
      | some e => have := hp e rfl; simp [this]
    · rw [cell_bad (by omega)]; simp
/-- Cell by cell. -/
theorem okFrom_iff (p : Option Cl) (l : List Cl) : okFrom p l = true ↔ ∀ j c, l[j]? = some c → cellB (if j = 0 then p else l[j - 1]?) c l[j + 1]? = true := by
  induction l generalizing p with
  | nil => simp [okFrom]
  | cons a t ih =>
    rw [okFrom, Bool.and_eq_true, ih]
    constructor
    · rintro ⟨h1, h2⟩ j c hj
      cases j with
      | zero =>
        obtain rfl : a = c := by simpa using hj
        simp only [if_true, List.getElem?_cons_succ, Nat.zero_add]
        rw [← List.head?_eq_getElem?]; exact h1
      | succ j =>
        have h3 := h2 j c (by simpa using hj)
        rw [if_neg (by omega), Nat.add_sub_cancel, List.getElem?_cons_succ]
        cases j with
        | zero => simpa using h3
        | succ j => simpa using h3
    · intro h
      refine ⟨by have := h 0 a rfl; simp only [if_true, List.getElem?_cons_succ, Nat.zero_add] at this; rw [List.head?_eq_getElem?]; exact this, fun j c hj => ?_⟩
      have h3 := h (j + 1) c (by simpa using hj)
      rw [if_neg (by omega), Nat.add_sub_cancel, List.getElem?_cons_succ] at h3
      cases j with
      | zero => simpa using h3
      | succ j => simpa using h3
/-- A row of a screen. -/
def rowL (L : List Cl) (cols k : Nat) : List Cl := (L.drop (k * cols)).take cols
def validL (L : List Cl) (rows cols : Nat) : Bool := (List.range rows).all fun k => rowB (rowL L cols k)
/-- May the cell at a place be? -/
def okAt (L : List Cl) (cols i : Nat) (c : Cl) : Bool := cellB (if i % cols = 0 then none else L[i - 1]?) c (if i % cols = cols - 1 then none else L[i + 1]?)
theorem rowL_at {L : List Cl} {cols k j : Nat} (h : j < cols) : (rowL L cols k)[j]? = L[k * cols + j]? := by
  unfold rowL
  rw [List.getElem?_take_of_lt h, List.getElem?_drop]
theorem rowL_end {L : List Cl} {cols k j : Nat} (h : cols ≤ j) : (rowL L cols k)[j]? = none := by
  unfold rowL
  exact List.getElem?_take_eq_none h
theorem row_cells (L : List Cl) (cols k : Nat) (hc : 0 < cols) : rowB (rowL L cols k) = true ↔ ∀ j c, j < cols → L[k * cols + j]? = some c → okAt L cols (k * cols + j) c = true := by
  rw [row_ok _ none (fun d h => by cases h), okFrom_iff]
  have key : ∀ j c, j < cols → (cellB (if j = 0 then none else (rowL L cols k)[j - 1]?) c (rowL L cols k)[j + 1]? = okAt L cols (k * cols + j) c) := by
    intro j c hj
    unfold okAt
    have e : (k * cols + j) % cols = j := by rw [Nat.mul_comm, Nat.mul_add_mod, Nat.mod_eq_of_lt hj]
    rw [e]
    congr 1
    · by_cases h0 : j = 0
      · rw [if_pos h0, if_pos h0]
      · rw [if_neg h0, if_neg h0, rowL_at (by omega), show k * cols + j - 1 = k * cols + (j - 1) by omega]
    · by_cases h1 : j = cols - 1
      · rw [if_pos h1, rowL_end (by omega)]
      · rw [if_neg h1, rowL_at (by omega)]; rfl
  constructor
  · intro h j c hj hl
    rw [← key j c hj]
    exact h j c (by rw [rowL_at hj]; exact hl)
  · intro h j c hl
    by_cases hj : j < cols
    · rw [key j c hj]
      exact h j c hj (by rw [← rowL_at hj]; exact hl)
    · rw [rowL_end (by omega)] at hl; cases hl
/-- The two ways agree. -/
theorem valid_cells (L : List Cl) (rows cols : Nat) (hc : 0 < cols) (hL : L.length = rows * cols) : validL L rows cols = true ↔ ∀ i c, L[i]? = some c → okAt L cols i c = true := by
  unfold validL
  rw [List.all_eq_true]
  constructor
  · intro h i c hi
    have hlt := (List.getElem?_eq_some_iff.1 hi).1
    have hk : i / cols < rows := by rw [Nat.div_lt_iff_lt_mul hc, ← hL]; exact hlt
    have h2 := (row_cells L cols (i / cols) hc).1 (h _ (List.mem_range.2 hk)) (i % cols) c (Nat.mod_lt _ hc)
    rw [show i / cols * cols + i % cols = i by rw [Nat.mul_comm]; exact Nat.div_add_mod i cols] at h2
    exact h2 hi
  · intro h k hk
    rw [row_cells L cols k hc]
    exact fun j c hj hl => h _ c hl
def mayB (rows cols : Int) : Bool := decide (2 ≤ rows ∧ rows ≤ 100 ∧ 8 ≤ cols ∧ cols ≤ 200)
/-- A screen. -/
structure Fr where
  rows : Int
  cols : Int
  cs : List Cl
  row : Int
  col : Int
deriving DecidableEq
def noF : Fr := ⟨0, 0, [], 0, 0⟩
def curB (f : Fr) : Bool := decide (0 ≤ f.row ∧ f.row < f.rows ∧ 0 ≤ f.col ∧ f.col < f.cols)
def sizeB (f : Fr) : Bool := decide ((f.cs.length : Int) = f.rows * f.cols)
def validF (f : Fr) : Bool := mayB f.rows f.cols && sizeB f && curB f && validL f.cs f.rows.toNat f.cols.toNat
end Go.Proofs.YtojjdckpbmjjdaaDoor
