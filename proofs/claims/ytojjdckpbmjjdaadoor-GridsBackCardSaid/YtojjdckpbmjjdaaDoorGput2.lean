/- Plain: the document's way of putting a rune is the program's; rows that are joined. No program in sight. -/
import Derived.Test.YtojjdckpbmjjdaaDoorGput
namespace Go.Proofs.YtojjdckpbmjjdaaDoor

theorem blankN_at {l : List Cl} {i n : Nat} (hn : n = 1 ∨ n = 2) (hi : i + n ≤ l.length) (j : Nat) : (blankN l i n)[j]? = if i ≤ j ∧ j < i + n then some blankC else l[j]? := by
  rcases hn with rfl | rfl
  · unfold blankN
    rw [if_neg (by omega), List.getElem?_set]
    by_cases e : i = j
    · subst e; rw [if_pos rfl, if_pos (by omega), if_pos (by omega)]
    · rw [if_neg e, if_neg (by omega)]
  · unfold blankN
    rw [if_pos rfl, List.getElem?_set]
    by_cases e : i + 1 = j
    · subst e; rw [if_pos rfl, if_pos (by simp; omega), if_pos (by omega)]
    · rw [if_neg e, List.getElem?_set]
      by_cases e2 : i = j
      · subst e2; rw [if_pos rfl, if_pos (by omega), if_pos (by omega)]
      · rw [if_neg e2, if_neg (by omega)]
theorem blankN_len (l : List Cl) (i n : Nat) : (blankN l i n).length = l.length := by unfold blankN; split <;> simp
theorem putD_at {l : List Cl} (h : rowB l = true) {i n : Nat} (hn : n = 1 ∨ n = 2) (hi : i + n ≤ l.length) (c : Cl) (j : Nat) : (putD l i n c)[j]? = putAt l i n c j := by
  have hm : ∀ j, (mendL none (blankN l i n))[j]? = _ := fun j => mendL_at (blankN l i n) none j
  have hml : (mendL none (blankN l i n)).length = l.length := by rw [mend_len, blankN_len]
  have core : ∀ j, ¬ (i ≤ j ∧ j < i + n) → (mendL none (blankN l i n))[j]? = if (j + 1 = i ∧ (l.getD i blankC).w = 0) ∨ (j = i + n ∧ (l.getD (i + n - 1) blankC).w = 2) then some blankC else l[j]? := by
    intro j hj
    have hb := blankN_at hn hi j
    rw [if_neg hj] at hb
    rw [hm j, hb]
    have L1 : j = i + n → (blankN l i n)[j - 1]? = some blankC := fun e => by rw [blankN_at hn hi, if_pos (show i ≤ j - 1 ∧ j - 1 < i + n by omega)]
    have R1 : ¬ j + 1 = i → (blankN l i n)[j + 1]? = l[j + 1]? := fun e => by rw [blankN_at hn hi, if_neg (show ¬ (i ≤ j + 1 ∧ j + 1 < i + n) by omega)]
    have L2 : ¬ j = i + n → (if j = 0 then none else (blankN l i n)[j - 1]?) = if j = 0 then none else l[j - 1]? := fun e => by
      split
      · rfl
      · rw [blankN_at hn hi, if_neg (show ¬ (i ≤ j - 1 ∧ j - 1 < i + n) by omega)]
    have R2 : j + 1 = i → (blankN l i n)[j + 1]? = some blankC := fun e => by rw [blankN_at hn hi, if_pos (show i ≤ j + 1 ∧ j + 1 < i + n by omega)]
    have Z1 : j = i + n → ¬ j = 0 := fun e => by omega
    have Z2 : j = i + n → j - 1 = i + n - 1 ∧ i + n - 1 + 1 = j ∧ ¬ j + 1 = i := fun e => by omega
    have Z3 : j + 1 = i → i - 1 = j ∧ ¬ j = i + n := fun e => by omega
    have Z4 : l.length ≤ j → ¬ j + 1 = i ∧ (j = i + n → i + n - 1 + 1 = j) := fun e => by omega
    have Z5 : i < l.length ∧ i + n - 1 < l.length := by omega
    have hx := List.getElem?_eq_getElem Z5.1
    have hy := List.getElem?_eq_getElem Z5.2
    rw [getD_some hx, getD_some hy]
    have x3 := (row_facts h i _ hx).2.2
    have y2 := (row_facts h (i + n - 1) _ hy).2.1
    cases hc : l[j]? with
    | none =>
      have hlj := List.getElem?_eq_none_iff.1 hc
      rw [Option.map_none, if_neg]
      rintro (⟨e, _⟩ | ⟨e, h2⟩)
      · exact (Z4 hlj).1 e
      · obtain ⟨d, hd, _⟩ := y2 h2
        rw [(Z4 hlj).2 e, hc] at hd
        cases hd
    | some z =>
      have hz := row_facts h j z hc
      have hk := mend_keep h hc
      rw [Option.map_some]
      by_cases e1 : j = i + n
      · rw [if_neg (Z1 e1), L1 e1, R1 (Z2 e1).2.2]
        have hiff : z.w = 0 ↔ (l[i + n - 1]'Z5.2).w = 2 := by
          constructor
          · intro h0
            obtain ⟨_, d, hd, hd2⟩ := hz.2.2 h0
            rw [(Z2 e1).1, hy] at hd
            injection hd with hd
            rw [hd]; exact hd2
          · intro h2
            obtain ⟨d, hd, hd2⟩ := y2 h2
            rw [(Z2 e1).2.1, hc] at hd
            injection hd with hd
            rw [hd]; exact hd2
        unfold mendAt
        by_cases h0 : z.w = 0
        · rw [if_pos (.inr ⟨h0, by simp [blank_w]⟩), if_pos (.inr ⟨e1, hiff.1 h0⟩)]
        · rw [if_neg, if_neg]
          · rintro (⟨a, _⟩ | ⟨_, b⟩)
            · exact (Z2 e1).2.2 a
            · exact h0 (hiff.2 b)
          · rintro (⟨a, b⟩ | ⟨a, _⟩)
            · obtain ⟨d, hd, hd2⟩ := hz.2.1 a
              rw [hd] at b
              simp [hd2] at b
            · exact h0 a
      by_cases e2 : j + 1 = i
      · rw [L2 (Z3 e2).2, R2 e2]
        have hiff : z.w = 2 ↔ (l[i]'Z5.1).w = 0 := by
          constructor
          · intro h2
            obtain ⟨d, hd, hd2⟩ := hz.2.1 h2
            rw [e2, hx] at hd
            injection hd with hd
            rw [hd]; exact hd2
          · intro h0
            obtain ⟨_, d, hd, hd2⟩ := x3 h0
            rw [(Z3 e2).1, hc] at hd
            injection hd with hd
            rw [hd]; exact hd2
        unfold mendAt
        by_cases h0 : z.w = 2
        · rw [if_pos (.inl ⟨h0, by simp [blank_w]⟩), if_pos (.inl ⟨e2, hiff.1 h0⟩)]
        · rw [if_neg, if_neg]
          · rintro (⟨_, b⟩ | ⟨b, _⟩)
            · exact h0 (hiff.2 b)
            · exact (Z3 e2).2 b
          · rintro (⟨a, b⟩ | ⟨a, b⟩)
            · exact h0 a
            · obtain ⟨hj1, d, hd, hd2⟩ := hz.2.2 a
              rw [if_neg (Nat.ne_of_gt hj1), hd] at b
              simp [hd2] at b
      · rw [L2 e1, R1 e2, hk, if_neg]
        rintro (⟨a, _⟩ | ⟨a, _⟩)
        · exact e2 a
        · exact e1 a
  rcases hn with rfl | rfl
  · unfold putD putAt
    rw [if_neg (by omega), List.getElem?_set]
    by_cases e : i = j
    · subst e; rw [if_pos rfl, if_pos (by omega), if_pos rfl]
    · rw [if_neg e, if_neg (show ¬ j = i from fun h => e h.symm), if_neg (show ¬ (1 = 2 ∧ j = i + 1) by omega), core j (by omega)]
  · unfold putD putAt
    rw [if_pos rfl, List.getElem?_set]
    by_cases e : i + 1 = j
    · subst e; rw [if_pos rfl, if_pos (by rw [List.length_set]; omega), if_neg (show ¬ i + 1 = i by omega), if_pos ⟨rfl, rfl⟩]
    · rw [if_neg e, List.getElem?_set]
      by_cases e2 : i = j
      · subst e2; rw [if_pos rfl, if_pos (by omega), if_pos rfl]
      · rw [if_neg e2, if_neg (show ¬ j = i from fun h => e2 h.symm), if_neg (show ¬ (2 = 2 ∧ j = i + 1) by omega), core j (by omega)]
theorem putD_eq {l : List Cl} (h : rowB l = true) {i n : Nat} (hn : n = 1 ∨ n = 2) (hi : i + n ≤ l.length) (c : Cl) : putD l i n c = putL l i n c := by
  apply List.ext_getElem?
  intro j
  rw [putD_at h hn hi, putL_at h hn hi]

theorem row_app : ∀ (l m : List Cl), rowB l = true → rowB (l ++ m) = rowB m
  | [], m, _ => rfl
  | [c], m, h => by
    simp only [rowB, Bool.and_eq_true, decide_eq_true_eq] at h
    cases m with
    | nil => simp [rowB, h]
    | cons d t => simp [rowB, h]
  | c :: d :: t, m, h => by
    rw [rowB] at h
    rw [List.cons_append, List.cons_append, rowB]
    by_cases h1 : c.w = 1
    · rw [if_pos h1] at h ⊢
      simp only [Bool.and_eq_true] at h
      rw [← List.cons_append, row_app (d :: t) m h.2, h.1.1, h.1.2]; rfl
    rw [if_neg h1] at h ⊢
    by_cases h2 : c.w = 2
    · rw [if_pos h2] at h ⊢
      simp only [Bool.and_eq_true] at h
      rw [row_app t m h.2, h.1.1.1, h.1.1.2, h.1.2]; rfl
    · rw [if_neg h2] at h; cases h
theorem row_whole : ∀ (rows : Nat) (L : List Cl) (cols : Nat), L.length = rows * cols → validL L rows cols = true → rowB L = true
  | 0, L, cols, hL, _ => by rw [Nat.zero_mul] at hL; rw [List.length_eq_zero_iff.1 hL]; rfl
  | rows + 1, L, cols, hL, hv => by
    unfold validL at hv
    rw [List.all_eq_true] at hv
    have h0 := hv 0 (by simp)
    have e0 : rowL L cols 0 = L.take cols := by simp [rowL]
    rw [e0] at h0
    rw [← List.take_append_drop cols L, row_app _ _ h0]
    refine row_whole rows (L.drop cols) cols (by rw [List.length_drop, hL, Nat.add_mul]; omega) ?_
    unfold validL
    rw [List.all_eq_true]
    intro k hk
    have := hv (k + 1) (by simp at hk ⊢; omega)
    rw [← this]
    congr 1
    unfold rowL
    rw [List.drop_drop, Nat.add_mul, Nat.one_mul, Nat.add_comm]
theorem rowL_len {L : List Cl} {rows cols k : Nat} (hL : L.length = rows * cols) (hk : k < rows) : (rowL L cols k).length = cols := by
  unfold rowL
  rw [List.length_take, List.length_drop, hL]
  have : (k + 1) * cols ≤ rows * cols := Nat.mul_le_mul_right _ hk
  rw [Nat.add_mul, Nat.one_mul] at this
  omega
/-- A screen with a row exchanged. -/
def replR (L : List Cl) (cols k : Nat) (l : List Cl) : List Cl := L.take (k * cols) ++ l ++ L.drop ((k + 1) * cols)
theorem replR_at {L l : List Cl} {rows cols k : Nat} (hL : L.length = rows * cols) (hk : k < rows) (hl : l.length = cols) (j : Nat) : (replR L cols k l)[j]? = if k * cols ≤ j ∧ j < (k + 1) * cols then l[j - k * cols]? else L[j]? := by
  have h1 : (k + 1) * cols ≤ rows * cols := Nat.mul_le_mul_right _ hk
  have h2 : (k + 1) * cols = k * cols + cols := by rw [Nat.add_mul, Nat.one_mul]
  have e1 : (L.take (k * cols)).length = k * cols := by rw [List.length_take]; omega
  unfold replR
  by_cases a : j < k * cols
  · rw [if_neg (by omega), List.append_assoc, List.getElem?_append_left (by omega), List.getElem?_take_of_lt a]
  by_cases b : j < (k + 1) * cols
  · rw [if_pos (by omega), List.getElem?_append_left (by rw [List.length_append]; omega), List.getElem?_append_right (by omega), e1]
  · rw [if_neg (by omega), List.getElem?_append_right (by rw [List.length_append]; omega), List.length_append, e1, hl, List.getElem?_drop]
    congr 1
    omega
theorem put_rows {L : List Cl} {rows cols k i n : Nat} (hL : L.length = rows * cols) (hv : validL L rows cols = true) (hk : k < rows) (hn : n = 1 ∨ n = 2) (hi : i + n ≤ cols) (c : Cl) :
    putL L (k * cols + i) n c = replR L cols k (putL (rowL L cols k) i n c) := by
  have hw := row_whole rows L cols hL hv
  have hr : rowB (rowL L cols k) = true := by unfold validL at hv; rw [List.all_eq_true] at hv; exact hv k (List.mem_range.2 hk)
  have hlen := rowL_len hL hk
  have h1 : (k + 1) * cols ≤ rows * cols := Nat.mul_le_mul_right _ hk
  have h2 : (k + 1) * cols = k * cols + cols := by rw [Nat.add_mul, Nat.one_mul]
  have hg : ∀ q, q < cols → (rowL L cols k).getD q blankC = L.getD (k * cols + q) blankC := fun q hq => by rw [List.getD_eq_getElem?_getD, List.getD_eq_getElem?_getD, rowL_at hq]
  apply List.ext_getElem?
  intro j
  rw [putL_at hw hn (by omega), replR_at hL hk (by rw [put_len, hlen]), putL_at hr hn (by omega)]
  by_cases hj : k * cols ≤ j ∧ j < (k + 1) * cols
  · rw [if_pos hj]
    unfold putAt
    rw [hg i (by omega), hg (i + n - 1) (by omega), rowL_at (by omega), show k * cols + (j - k * cols) = j by omega, show k * cols + (i + n - 1) = k * cols + i + n - 1 by omega]
    simp only [show (j = k * cols + i) = (j - k * cols = i) from propext ⟨fun h => by omega, fun h => by omega⟩, show (j = k * cols + i + 1) = (j - k * cols = i + 1) from propext ⟨fun h => by omega, fun h => by omega⟩, show (j + 1 = k * cols + i) = (j - k * cols + 1 = i) from propext ⟨fun h => by omega, fun h => by omega⟩, show (j = k * cols + i + n) = (j - k * cols = i + n) from propext ⟨fun h => by omega, fun h => by omega⟩]
  · rw [if_neg hj]
    unfold putAt
    rw [if_neg (by omega), if_neg (by omega), if_neg]
    rintro (⟨a, b⟩ | ⟨a, b⟩)
    · have hi0 : i = 0 := by omega
      subst hi0
      have hx : (rowL L cols k)[0]? = some ((rowL L cols k)[0]'(by omega)) := List.getElem?_eq_getElem (by omega)
      have := (row_facts hr 0 _ hx).2.2
      rw [← hg 0 (by omega), getD_some hx] at b
      have := (this b).1
      omega
    · have hi0 : i + n = cols := by omega
      have hx : (rowL L cols k)[i + n - 1]? = some ((rowL L cols k)[i + n - 1]'(by omega)) := List.getElem?_eq_getElem (by omega)
      have h9 := (row_facts hr (i + n - 1) _ hx).2.1
      rw [show k * cols + i + n - 1 = k * cols + (i + n - 1) by omega, ← hg (i + n - 1) (by omega), getD_some hx] at b
      obtain ⟨d, hd, _⟩ := h9 b
      rw [rowL_end (by omega)] at hd
      cases hd
end Go.Proofs.YtojjdckpbmjjdaaDoor
