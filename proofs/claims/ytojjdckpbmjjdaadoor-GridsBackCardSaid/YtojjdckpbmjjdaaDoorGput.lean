/- Plain: a rune put into a row of a screen. No program in sight. -/
import Derived.Test.YtojjdckpbmjjdaaDoorGplain
namespace Go.Proofs.YtojjdckpbmjjdaaDoor

theorem row_facts {l : List Cl} (h : rowB l = true) : ∀ (j : Nat) (c : Cl), l[j]? = some c → ((0 : Int) ≤ c.w ∧ c.w ≤ 2) ∧ (c.w = 2 → ∃ d, l[j + 1]? = some d ∧ d.w = 0) ∧ (c.w = 0 → 1 ≤ j ∧ ∃ d, l[j - 1]? = some d ∧ d.w = 2) := by
  intro j c hj
  rw [row_ok _ none (fun d h => by cases h), okFrom_iff] at h
  have h := h j c hj
  unfold cellB at h
  simp only [Bool.and_eq_true, Bool.or_eq_true, decide_eq_true_eq] at h
  obtain ⟨⟨⟨⟨-, h1⟩, -⟩, h2⟩, h3⟩ := h
  refine ⟨h1, fun h9 => ?_, fun h9 => ?_⟩
  · rcases h2 with h2 | h2
    · exact absurd h9 h2
    · cases hd : l[j + 1]? with
      | none => rw [hd] at h2; cases h2
      | some d => rw [hd] at h2; exact ⟨d, rfl, by simpa using h2⟩
  · rcases h3 with h3 | h3
    · exact absurd h9 h3
    · by_cases h0 : j = 0
      · rw [if_pos h0] at h3; cases h3
      · rw [if_neg h0] at h3
        cases hd : l[j - 1]? with
        | none => rw [hd] at h3; cases h3
        | some d =>
          rw [hd] at h3
          simp only [Option.any_some, Bool.and_eq_true, decide_eq_true_eq] at h3
          exact ⟨by omega, d, rfl, h3.1.1⟩

/-- A blank in the place of a cell, and of the other half of what stood there. -/
def wipeL (L : List Cl) (i : Nat) : List Cl :=
  (if (L.getD i blankC).w = 2 then L.set (i + 1) blankC else if (L.getD i blankC).w = 0 then L.set (i - 1) blankC else L).set i blankC
/-- The program's way. -/
def putL (L : List Cl) (i n : Nat) (c : Cl) : List Cl :=
  if n = 2 then ((wipeL (wipeL L i) (i + 1)).set (i + 1) (halfC c)).set i c else (wipeL L i).set i c
theorem wipe_len (L : List Cl) (i : Nat) : (wipeL L i).length = L.length := by unfold wipeL; (repeat' split) <;> simp
theorem put_len (L : List Cl) (i n : Nat) (c : Cl) : (putL L i n c).length = L.length := by unfold putL; split <;> simp [wipe_len]
/-- Halves that have lost the other one, from the front on. -/
def mendAt (p : Option Cl) (c : Cl) (n : Option Cl) : Cl := if (c.w = 2 ∧ n.all (fun d => decide (d.w ≠ 0)) = true) ∨ (c.w = 0 ∧ p.all (fun d => decide (d.w ≠ 2)) = true) then blankC else c
def mendL (p : Option Cl) : List Cl → List Cl
  | [] => []
  | c :: t => mendAt p c t.head? :: mendL (some (mendAt p c t.head?)) t
theorem mend_left (p : Option Cl) (c d : Cl) (n : Option Cl) : mendAt (some (mendAt p c (some d))) d n = mendAt (some c) d n := by
  by_cases h : (c.w = 2 ∧ (some d : Option Cl).all (fun d => decide (d.w ≠ 0)) = true) ∨ (c.w = 0 ∧ p.all (fun d => decide (d.w ≠ 2)) = true)
  · have e : mendAt p c (some d) = blankC := if_pos h
    rw [e]
    unfold mendAt
    simp only [Option.all_some, decide_eq_true_eq] at h ⊢
    have hb : blankC.w ≠ 2 := by decide
    rcases h with ⟨h1, h2⟩ | ⟨h1, h2⟩
    · simp only [h2, false_and, or_false]
    · have : c.w ≠ 2 := by rw [h1]; decide
      simp only [hb, this, ne_eq, not_false_eq_true, and_true]
  · have e : mendAt p c (some d) = c := if_neg h
    rw [e]
theorem mendL_at (l : List Cl) (p : Option Cl) (j : Nat) : (mendL p l)[j]? = l[j]?.map fun c => mendAt (if j = 0 then p else l[j - 1]?) c l[j + 1]? := by
  induction l generalizing p j with
  | nil => simp [mendL]
  | cons a t ih =>
    rw [mendL]
    cases j with
    | zero => simp [List.head?_eq_getElem?]
    | succ j =>
      rw [List.getElem?_cons_succ, ih, List.getElem?_cons_succ, List.getElem?_cons_succ, Nat.add_sub_cancel, if_neg (Nat.succ_ne_zero j)]
      cases j with
      | zero =>
        cases t with
        | nil => simp
        | cons d t =>
          show some (mendAt (some (mendAt p a (some d))) d t[0]?) = some (mendAt (some a) d t[0]?)
          rw [mend_left]
      | succ j => simp
theorem mend_len (l : List Cl) (p : Option Cl) : (mendL p l).length = l.length := by
  induction l generalizing p with
  | nil => rfl
  | cons a t ih => simp [mendL, ih]
def blankN (l : List Cl) (i n : Nat) : List Cl := if n = 2 then (l.set i blankC).set (i + 1) blankC else l.set i blankC
/-- The document's way, in a row. -/
def putD (l : List Cl) (i n : Nat) (c : Cl) : List Cl := if n = 2 then ((mendL none (blankN l i n)).set i c).set (i + 1) (halfC c) else (mendL none (blankN l i n)).set i c
theorem getD_some {L : List Cl} {i : Nat} {c : Cl} (h : L[i]? = some c) : L.getD i blankC = c := by rw [List.getD_eq_getElem?_getD, h]; rfl
/-- What stands where, behind a rune put in. -/
def putAt (l : List Cl) (i n : Nat) (c : Cl) (j : Nat) : Option Cl :=
  if j = i then some c else if n = 2 ∧ j = i + 1 then some (halfC c)
  else if (j + 1 = i ∧ (l.getD i blankC).w = 0) ∨ (j = i + n ∧ (l.getD (i + n - 1) blankC).w = 2) then some blankC else l[j]?
theorem blank_w : blankC.w = 1 := rfl
theorem putL_at {l : List Cl} (h : rowB l = true) {i n : Nat} (hn : n = 1 ∨ n = 2) (hi : i + n ≤ l.length) (c : Cl) (j : Nat) : (putL l i n c)[j]? = putAt l i n c j := by
  have hx := List.getElem?_eq_getElem (show i < l.length by omega)
  obtain ⟨f1, f2, f3⟩ := row_facts h i _ hx
  have gx := getD_some hx
  rcases hn with rfl | rfl
  · unfold putL putAt wipeL
    rw [if_neg (by omega), gx, show i + 1 - 1 = i by omega, gx]
    by_cases h2 : l[i].w = 2
    · obtain ⟨d, hd, hd2⟩ := f2 h2
      have hl := (List.getElem?_eq_some_iff.1 hd).1
      rw [if_pos h2]
      simp only [List.getElem?_set, List.length_set]
      by_cases e1 : j = i
      · subst e1; simp; omega
      by_cases e2 : j = i + 1
      · subst e2
        simp only [show i ≠ i + 1 by omega, if_false, if_true, hl, show i + 1 ≠ i by omega, h2, and_self, or_true]
        simp
      · simp [e1, e2, Ne.symm e1, Ne.symm e2, h2]
    rw [if_neg h2]
    by_cases h0 : l[i].w = 0
    · obtain ⟨hi1, d, hd, hd2⟩ := f3 h0
      rw [if_pos h0]
      simp only [List.getElem?_set, List.length_set]
      by_cases e1 : j = i
      · subst e1; simp; omega
      by_cases e2 : j + 1 = i
      · have e3 : i - 1 = j := by omega
        simp only [e3, Ne.symm e1, if_false, if_true, e1, show j < l.length by omega, e2, h0, and_self, true_or]
        simp
      · simp [e1, e2, Ne.symm e1, show ¬ i - 1 = j by omega, h2]
    · rw [if_neg h0]
      simp only [List.getElem?_set, List.length_set]
      by_cases e1 : j = i
      · subst e1; simp; omega
      · simp [e1, Ne.symm e1, h0, h2]
  · have hy := List.getElem?_eq_getElem (show i + 1 < l.length by omega)
    obtain ⟨g1, g2, g3⟩ := row_facts h (i + 1) _ hy
    have gy := getD_some hy
    have hw1 : (wipeL l i)[i + 1]? = some (if l[i].w = 2 then blankC else l[i + 1]) := by
      unfold wipeL
      rw [gx]
      by_cases h2 : l[i].w = 2
      · rw [if_pos h2, if_pos h2]; simp [List.getElem?_set]; omega
      · rw [if_neg h2, if_neg h2]
        split
        · simp only [List.getElem?_set]; simp [show ¬ i - 1 = i + 1 by omega, hy]
        · simp only [List.getElem?_set]; simp [hy]
    have hw2 : (wipeL l i)[j]? = if j = i then some blankC else if (l[i].w = 2 ∧ j = i + 1) ∨ (l[i].w = 0 ∧ j + 1 = i) then some blankC else l[j]? := by
      unfold wipeL
      rw [gx]
      by_cases e1 : j = i
      · subst e1
        have hz : ∀ b : List Cl, b.length = l.length → (b.set j blankC)[j]? = some blankC := fun b hb => by rw [List.getElem?_set, if_pos rfl, if_pos (by omega)]
        rw [if_pos rfl]
        (repeat' split) <;> exact hz _ (by simp)
      rw [if_neg e1]
      by_cases h2 : l[i].w = 2
      · rw [if_pos h2]
        simp only [List.getElem?_set, List.length_set, Ne.symm e1, if_false]
        by_cases e2 : i + 1 = j
        · subst e2; simp [h2]; omega
        · simp [e2, Ne.symm e2, h2]
      rw [if_neg h2]
      by_cases h0 : l[i].w = 0
      · obtain ⟨hi1, d, hd, hd2⟩ := f3 h0
        rw [if_pos h0]
        simp only [List.getElem?_set, List.length_set, Ne.symm e1, if_false]
        by_cases e2 : i - 1 = j
        · have e3 : j + 1 = i := by omega
          simp only [e2, if_true, h0, e3, and_self, or_true]
          simp; omega
        · simp [e2, show ¬ j + 1 = i by omega, h2]
      · rw [if_neg h0]
        simp [List.getElem?_set, Ne.symm e1, h2, h0]
    unfold putL putAt
    rw [if_pos rfl, show i + 2 - 1 = i + 1 by omega, gx, gy]
    have hz1 := wipe_len (wipeL l i) (i + 1)
    have hz2 := wipe_len l i
    obtain ⟨L1, hL1⟩ : ∃ L1, wipeL l i = L1 := ⟨_, rfl⟩
    rw [hL1] at hw1 hw2 hz1 hz2 ⊢
    clear hL1
    by_cases e1 : j = i
    · subst e1
      rw [if_pos rfl, List.getElem?_set, if_pos rfl, if_pos (by simp [hz1, hz2]; omega)]
    rw [if_neg e1, List.getElem?_set, if_neg (Ne.symm e1)]
    by_cases e2 : j = i + 1
    · subst e2
      rw [if_pos ⟨rfl, rfl⟩, List.getElem?_set, if_pos rfl, if_pos (by rw [hz1, hz2]; omega)]
    rw [if_neg (by omega), List.getElem?_set, if_neg (Ne.symm e2)]
    conv => lhs; unfold wipeL
    rw [getD_some hw1, List.getElem?_set, if_neg (Ne.symm e2)]
    by_cases h2 : l[i].w = 2
    · obtain ⟨d, hd, hd2⟩ := f2 h2
      rw [hy] at hd
      injection hd with hd
      subst hd
      simp only [h2, if_true, blank_w]
      rw [if_neg (by omega), if_neg (by omega), hw2, if_neg e1, if_neg (by omega), if_neg (by omega)]
    simp only [h2, if_false]
    by_cases h3 : l[i + 1].w = 2
    · obtain ⟨d, hd, hd2⟩ := g2 h3
      rw [if_pos h3, List.getElem?_set]
      by_cases e3 : i + 1 + 1 = j
      · rw [if_pos e3, if_pos (by rw [hz2]; exact (List.getElem?_eq_some_iff.1 hd).1), if_pos (.inr ⟨by omega, h3⟩)]
      · rw [if_neg e3, hw2, if_neg e1]
        by_cases h9 : l[i].w = 0 ∧ j + 1 = i
        · rw [if_pos (.inr h9), if_pos (.inl ⟨h9.2, h9.1⟩)]
        · rw [if_neg (by omega), if_neg (by omega)]
    rw [if_neg h3]
    by_cases h4 : l[i + 1].w = 0
    · obtain ⟨_, d, hd, hd2⟩ := g3 h4
      rw [Nat.add_sub_cancel, hx] at hd
      injection hd with hd
      subst hd
      exact absurd hd2 h2
    rw [if_neg h4, hw2, if_neg e1]
    by_cases h9 : l[i].w = 0 ∧ j + 1 = i
    · rw [if_pos (.inr h9), if_pos (.inl ⟨h9.2, h9.1⟩)]
    · rw [if_neg (by omega), if_neg (by omega)]
theorem mend_keep {l : List Cl} (h : rowB l = true) {j : Nat} {c : Cl} (hj : l[j]? = some c) : mendAt (if j = 0 then none else l[j - 1]?) c l[j + 1]? = c := by
  obtain ⟨f1, f2, f3⟩ := row_facts h j c hj
  unfold mendAt
  rw [if_neg]
  rintro (⟨h1, h2⟩ | ⟨h1, h2⟩)
  · obtain ⟨d, hd, hd2⟩ := f2 h1
    rw [hd] at h2
    simp [hd2] at h2
  · obtain ⟨hi, d, hd, hd2⟩ := f3 h1
    rw [if_neg (by omega), hd] at h2
    simp [hd2] at h2
end Go.Proofs.YtojjdckpbmjjdaaDoor
