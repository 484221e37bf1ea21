/- Plain: a frame in another size. No program in sight. -/
import Derived.Test.YtojjdckpbmjjdaaDoorGputf
namespace Go.Proofs.YtojjdckpbmjjdaaDoor

/-- The cells of a row, cut or filled up. -/
def fillL (l : List Cl) (n : Nat) : List Cl := l.take n ++ List.replicate (n - l.length) blankC
/-- A row in another width: what is cut at the end is a blank. -/
def rowR (l : List Cl) (n : Nat) : List Cl := if ((fillL l n).getD (n - 1) blankC).w = 2 then (fillL l n).set (n - 1) blankC else fillL l n
theorem fill_len (l : List Cl) (n : Nat) : (fillL l n).length = n := by unfold fillL; rw [List.length_append, List.length_take, List.length_replicate]; omega
theorem rowR_len (l : List Cl) (n : Nat) : (rowR l n).length = n := by unfold rowR; split <;> simp [fill_len]
theorem fill_at (l : List Cl) (n j : Nat) : (fillL l n)[j]? = if j < n then some (l.getD j blankC) else none := by
  unfold fillL
  by_cases h1 : j < (l.take n).length
  · rw [List.getElem?_append_left h1]
    rw [List.length_take] at h1
    rw [List.getElem?_take_of_lt (by omega), if_pos (by omega), List.getElem?_eq_getElem (show j < l.length by omega), getD_some (List.getElem?_eq_getElem (show j < l.length by omega))]
  · rw [List.getElem?_append_right (by omega)]
    rw [List.length_take] at h1 ⊢
    by_cases h2 : j < n
    · rw [if_pos h2, List.getElem?_replicate, if_pos (by omega), List.getD_eq_getElem?_getD, List.getElem?_eq_none (by omega)]; rfl
    · rw [if_neg h2, List.getElem?_replicate, if_neg (by omega)]
theorem rowR_at (l : List Cl) {n : Nat} (hn : 0 < n) (j : Nat) : (rowR l n)[j]? = if j < n then some (if j = n - 1 ∧ (l.getD j blankC).w = 2 then blankC else l.getD j blankC) else none := by
  have hd : (fillL l n).getD (n - 1) blankC = l.getD (n - 1) blankC := getD_some (by rw [fill_at, if_pos (by omega)])
  unfold rowR
  rw [hd]
  split
  case isTrue h =>
    rw [List.getElem?_set, fill_len, fill_at]
    by_cases e : n - 1 = j
    · subst e
      rw [if_pos rfl, if_pos (by omega), if_pos (by omega), if_pos ⟨rfl, h⟩]
    · rw [if_neg e]
      simp [show ¬ j = n - 1 from fun h => e h.symm]
  case isFalse h =>
    rw [fill_at]
    by_cases e : j = n - 1
    · rw [if_neg (fun x : j = n - 1 ∧ _ => h (by rw [← x.1]; exact x.2))]
    · rw [if_neg (fun x : j = n - 1 ∧ _ => e x.1)]
/-- What is mended in a row that was one. -/
theorem mend_fill {l : List Cl} (h : rowB l = true) {n : Nat} (hn : 0 < n) : mendL none (fillL l n) = rowR l n := by
  apply List.ext_getElem?
  intro j
  rw [mendL_at, rowR_at l hn, fill_at l n j]
  by_cases hj : j < n
  · rw [if_pos hj, if_pos hj, Option.map_some]
    congr 1
    by_cases hl : j < l.length
    · have hx := List.getElem?_eq_getElem hl
      obtain ⟨c, hc⟩ : ∃ c, l[j] = c := ⟨_, rfl⟩
      rw [hc] at hx
      rw [getD_some hx]
      have hk := mend_keep h hx
      obtain ⟨f1, f2, f3⟩ := row_facts h j c hx
      have hp : (if j = 0 then none else (fillL l n)[j - 1]?) = if j = 0 then none else l[j - 1]? := by
        split
        · rfl
        · rw [fill_at, if_pos (by omega), List.getElem?_eq_getElem (show j - 1 < l.length by omega), getD_some (List.getElem?_eq_getElem (show j - 1 < l.length by omega))]
      rw [hp]
      by_cases he : j = n - 1
      · rw [fill_at l n (j + 1), if_neg (show ¬ j + 1 < n by omega)]
        by_cases h2 : c.w = 2
        · rw [if_pos (show j = n - 1 ∧ c.w = 2 from ⟨he, h2⟩)]
          exact if_pos (.inl ⟨h2, rfl⟩)
        · rw [if_neg (show ¬ (j = n - 1 ∧ c.w = 2) from fun x => h2 x.2)]
          refine if_neg ?_
          rintro (⟨a, b⟩ | ⟨a, b⟩)
          · exact h2 a
          · obtain ⟨h1, d, hd, hd2⟩ := f3 a
            rw [if_neg (show ¬ j = 0 by omega), hd] at b
            simp [hd2] at b
      · rw [if_neg (fun x : j = n - 1 ∧ c.w = 2 => he x.1), fill_at l n (j + 1), if_pos (show j + 1 < n by omega)]
        by_cases h2 : c.w = 2
        · obtain ⟨d, hd, hd2⟩ := f2 h2
          rw [getD_some hd]
          rw [hd] at hk
          exact hk
        · refine if_neg ?_
          rintro (⟨a, b⟩ | ⟨a, b⟩)
          · exact h2 a
          · obtain ⟨h1, d, hd, hd2⟩ := f3 a
            rw [if_neg (show ¬ j = 0 by omega), hd] at b
            simp [hd2] at b
    · have e : l.getD j blankC = blankC := by rw [List.getD_eq_getElem?_getD, List.getElem?_eq_none (by omega)]; rfl
      rw [e, if_neg (show ¬ (j = n - 1 ∧ blankC.w = 2) from fun x => absurd x.2 (by decide))]
      exact if_neg (by rintro (⟨a, b⟩ | ⟨a, b⟩) <;> exact absurd a (by decide))
  · rw [if_neg hj, if_neg hj]; rfl
/-- The screen of R' rows of n cells, of which i have been filled. -/
def resTo (L : List Cl) (C n R' : Nat) : Nat → List Cl
  | 0 => List.replicate (R' * n) blankC
  | i + 1 => replR (resTo L C n R' i) n i (rowR (rowL L C i) n)
theorem resTo_len (L : List Cl) (C n R' : Nat) : ∀ i, i ≤ R' → (resTo L C n R' i).length = R' * n
  | 0, _ => by simp [resTo]
  | i + 1, h => replR_len (resTo_len L C n R' i (by omega)) (by omega) (rowR_len _ _)
theorem row_replR {L l : List Cl} {R C k : Nat} (hL : L.length = R * C) (hk : k < R) (hl : l.length = C) (q : Nat) : rowL (replR L C k l) C q = if q = k then l else rowL L C q := by
  split
  case isTrue h => subst h; exact replR_part hL hk hl
  case isFalse h =>
    apply List.ext_getElem?
    intro j
    unfold rowL
    by_cases hj : j < C
    · rw [List.getElem?_take_of_lt hj, List.getElem?_take_of_lt hj, List.getElem?_drop, List.getElem?_drop, replR_at hL hk hl, if_neg]
      rintro ⟨a, b⟩
      rcases Nat.lt_or_gt_of_ne h with h1 | h1
      · have : (q + 1) * C ≤ k * C := Nat.mul_le_mul_right _ h1
        rw [Nat.add_mul, Nat.one_mul] at this
        omega
      · have : (k + 1) * C ≤ q * C := Nat.mul_le_mul_right _ h1
        omega
    · rw [List.getElem?_take_eq_none (by omega), List.getElem?_take_eq_none (by omega)]
theorem resTo_row (L : List Cl) (C n R' : Nat) : ∀ i, i ≤ R' → ∀ q, q < R' → rowL (resTo L C n R' i) n q = if q < i then rowR (rowL L C q) n else List.replicate n blankC
  | 0, _, q, hq => by
    rw [if_neg (by omega)]
    have h1 : (q + 1) * n ≤ R' * n := Nat.mul_le_mul_right _ hq
    rw [Nat.add_mul, Nat.one_mul] at h1
    unfold rowL resTo
    rw [List.drop_replicate, List.take_replicate, Nat.min_eq_left (by omega)]
  | i + 1, h, q, hq => by
    rw [resTo, row_replR (resTo_len L C n R' i (by omega)) (by omega) (rowR_len _ _)]
    by_cases e : q = i
    · subst e; rw [if_pos rfl, if_pos (by omega)]
    · rw [if_neg e, resTo_row L C n R' i (by omega) q hq]
      by_cases a : q < i
      · rw [if_pos a, if_pos (by omega)]
      · rw [if_neg a, if_neg (by omega)]
theorem fill_step (l : List Cl) (n k : Nat) (x : Cl) (hx : l[k]? = some x) (hk : k < n) : (fillL (l.take k) n).set k x = fillL (l.take (k + 1)) n := by
  have hlt := (List.getElem?_eq_some_iff.1 hx).1
  apply List.ext_getElem?
  intro j
  rw [List.getElem?_set, fill_len, fill_at, fill_at]
  by_cases e : k = j
  · subst e
    rw [if_pos rfl, if_pos hk, if_pos hk, getD_some (by rw [List.getElem?_take_of_lt (by omega)]; exact hx)]
  · rw [if_neg e]
    congr 2
    rw [List.getD_eq_getElem?_getD, List.getD_eq_getElem?_getD]
    congr 1
    by_cases a : j < k
    · rw [List.getElem?_take_of_lt a, List.getElem?_take_of_lt (by omega)]
    · rw [List.getElem?_take_eq_none (by omega), List.getElem?_take_eq_none (by omega)]
theorem fill_0 (l : List Cl) (n : Nat) : fillL (l.take 0) n = List.replicate n blankC := by unfold fillL; simp
theorem fill_cut (l : List Cl) (n m : Nat) (h : n ≤ m ∨ l.length ≤ m) : fillL (l.take m) n = fillL l n := by
  apply List.ext_getElem?
  intro j
  rw [fill_at, fill_at]
  by_cases hj : j < n
  · rw [if_pos hj, if_pos hj]
    congr 1
    rw [List.getD_eq_getElem?_getD, List.getD_eq_getElem?_getD]
    congr 1
    by_cases a : j < m
    · rw [List.getElem?_take_of_lt a]
    · rw [List.getElem?_take_eq_none (by omega), List.getElem?_eq_none (by omega)]
  · rw [if_neg hj, if_neg hj]
/-- The frame of a size, of blanks. -/
def newF (rows cols : Int) : Fr := if mayB rows cols = true then ⟨rows, cols, List.replicate (rows.toNat * cols.toNat) blankC, 0, 0⟩ else noF
def newE (rows cols : Int) : Int := if mayB rows cols = true then 0 else 2
def resOk (f : Fr) (rows cols : Int) : Bool := mayB rows cols && validF f
def resF (f : Fr) (rows cols : Int) : Fr :=
  if resOk f rows cols = true then ⟨rows, cols, resTo f.cs f.cols.toNat cols.toNat rows.toNat (min rows.toNat f.rows.toNat), min f.row (rows - 1), min f.col (cols - 1)⟩ else noF
def resE (f : Fr) (rows cols : Int) : Int := if resOk f rows cols = true then 0 else 2
end Go.Proofs.YtojjdckpbmjjdaaDoor
