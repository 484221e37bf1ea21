/- Plain: what has been put in, or made of another size, may be; how far it differs. No program in sight. More plain facts on UTF-8: what is encoded is decoded. No program in sight. Two texts, one behind the other: plain facts. No program in sight. -/
import Derived.Test.YtmemdhmjhckmaaaDoorZ7
import Derived.Test.YtmemdhmjhckmaaaDoorZ2
import Derived.Lib.RuneCountTail
import Derived.Lib.ValidLaws
namespace Go.Proofs.YtmemdhmjhckmaaaDoor

/-- A fact that arithmetic is not to look into. -/
structure Kp (p : Prop) : Prop where
  out : p
theorem row_kp {l : List Cl} (h : rowB l = true) (j : Nat) (c : Cl) (hj : l[j]? = some c) : ((0 : Int) ≤ c.w ∧ c.w ≤ 2) ∧ Kp (c.w = 2 → ∃ d, l[j + 1]? = some d ∧ d.w = 0) ∧ Kp (c.w = 0 → 1 ≤ j ∧ ∃ d, l[j - 1]? = some d ∧ d.w = 2) :=
  ⟨(row_facts h j c hj).1, ⟨(row_facts h j c hj).2.1⟩, ⟨(row_facts h j c hj).2.2⟩⟩
theorem row_iff (l : List Cl) : rowB l = true ↔ ∀ j c, l[j]? = some c → cellB (if j = 0 then none else l[j - 1]?) c l[j + 1]? = true := by
  rw [row_ok _ none (fun d h => by cases h), okFrom_iff]
theorem cells_32 : cells 32 = 1 := by decide
theorem cell_blank (p n : Option Cl) : cellB p blankC n = true := by rw [cell_1 rfl]; unfold blankC; simp [cells_32, styC]
theorem sty_half (c : Cl) : styE (halfC c) c = true := by unfold styE halfC; simp
/-- A row with a rune put in is one. -/
theorem put_row {l : List Cl} (h : rowB l = true) {i n : Nat} (hn : n = 1 ∨ n = 2) (hi : i + n ≤ l.length) {c : Cl} (hc : c.w = n) (hr : cells c.r = n) (hs : styC c = true) : rowB (putL l i n c) = true := by
  rw [row_iff]
  intro j d hj
  have at' := putL_at h hn hi c
  rw [at'] at hj
  rw [at', at']
  have hx := List.getElem?_eq_getElem (show i < l.length by omega)
  have hy := List.getElem?_eq_getElem (show i + n - 1 < l.length by omega)
  obtain ⟨x, ex⟩ : ∃ x, l[i] = x := ⟨_, rfl⟩
  obtain ⟨y, ey⟩ : ∃ y, l[i + n - 1] = y := ⟨_, rfl⟩
  rw [ex] at hx
  rw [ey] at hy
  have gx : l.getD i blankC = x := getD_some hx
  have gy : l.getD (i + n - 1) blankC = y := getD_some hy
  obtain ⟨-, x2, x0⟩ := row_kp h i x hx
  obtain ⟨-, y2, y0⟩ := row_kp h (i + n - 1) y hy
  unfold putAt at hj
  rw [gx, gy] at hj
  by_cases e1 : j = i
  · rw [if_pos e1] at hj
    injection hj with hj
    subst hj
    subst e1
    rcases hn with rfl | rfl
    · rw [cell_1 (by rw [hc]; rfl), hs, Bool.and_true, decide_eq_true_eq]; exact_mod_cast hr
    · rw [cell_2 (by rw [hc]; rfl), hs, Bool.and_true, Bool.and_eq_true, decide_eq_true_eq]
      refine ⟨by exact_mod_cast hr, ?_⟩
      unfold putAt
      rw [if_neg (by omega), if_pos ⟨rfl, rfl⟩]
      rfl
  rw [if_neg e1] at hj
  by_cases e2 : n = 2 ∧ j = i + 1
  · rw [if_pos e2] at hj
    injection hj with hj
    subst hj
    obtain ⟨rfl, rfl⟩ := e2
    rw [cell_0 rfl, if_neg (by omega), Nat.add_sub_cancel]
    unfold putAt
    rw [if_pos rfl, sty_eq (sty_half c), hs, Option.any_some, sty_half, hc]
    rfl
  rw [if_neg e2] at hj
  by_cases e3 : (j + 1 = i ∧ x.w = 0) ∨ (j = i + n ∧ y.w = 2)
  · rw [if_pos e3] at hj
    injection hj with hj
    subst hj
    exact cell_blank _ _
  rw [if_neg e3] at hj
  have hcell := (row_iff l).1 h j d hj
  obtain ⟨⟨b1, b2⟩, f2, f0⟩ := row_kp h j d hj
  by_cases w1 : d.w = 1
  · rw [cell_1 w1] at hcell ⊢; exact hcell
  by_cases w2 : d.w = 2
  · rw [cell_2 w2] at hcell ⊢
    obtain ⟨e, he, he0⟩ := f2.out w2
    have : putAt l i n c (j + 1) = l[j + 1]? := by
      unfold putAt
      rw [gx, gy, if_neg, if_neg, if_neg]
      · rintro (⟨a, b⟩ | ⟨a, b⟩)
        · obtain ⟨_, q, hq, hq2⟩ := x0.out b
          rw [show i - 1 = j + 1 by omega, he] at hq
          injection hq with hq
          subst hq
          omega
        · omega
      · omega
      · intro a
        rw [a, hx] at he
        injection he with he
        subst he
        exact e3 (.inl ⟨a, he0⟩)
    rw [this]
    exact hcell
  · have w0 : d.w = 0 := by omega
    rw [cell_0 w0] at hcell ⊢
    obtain ⟨hj1, e, he, he2⟩ := f0.out w0
    have : putAt l i n c (j - 1) = l[j - 1]? := by
      unfold putAt
      rw [gx, gy, if_neg, if_neg, if_neg]
      · rintro (⟨a, b⟩ | ⟨a, b⟩)
        · omega
        · obtain ⟨q, hq, hq0⟩ := y2.out b
          rw [show i + n - 1 + 1 = j - 1 by omega, he] at hq
          injection hq with hq
          subst hq
          omega
      · rintro ⟨a, b⟩
        rw [show j - 1 = i + n - 1 by omega, hy] at he
        injection he with he
        subst he
        exact e3 (.inr ⟨by omega, he2⟩)
      · intro a
        rw [a, hx] at he
        injection he with he
        subst he
        rcases hn with rfl | rfl
        · rw [show i + 1 - 1 = i by omega, hx] at hy
          injection hy with hy
          subst hy
          exact e3 (.inr ⟨by omega, he2⟩)
        · exact e2 ⟨rfl, by omega⟩
    rw [if_neg (by omega)] at hcell ⊢
    rw [this]
    exact hcell
theorem blank_row : ∀ n, rowB (List.replicate n blankC) = true
  | n => by
    rw [row_iff]
    intro j c hj
    rw [List.getElem?_replicate] at hj
    split at hj
    · injection hj with hj; subst hj; exact cell_blank _ _
    · cases hj
/-- A row in another width is one. -/
theorem rowR_row {l : List Cl} (h : rowB l = true) {n : Nat} (hn : 0 < n) : rowB (rowR l n) = true := by
  rw [row_iff]
  intro j d hj
  rw [rowR_at l hn] at hj
  rw [rowR_at l hn, rowR_at l hn]
  split at hj
  case isFalse => cases hj
  case isTrue hjn =>
    injection hj with hj
    by_cases e : j = n - 1 ∧ (l.getD j blankC).w = 2
    · rw [if_pos e] at hj
      subst hj
      exact cell_blank _ _
    rw [if_neg e] at hj
    cases hc : l[j]? with
    | none =>
      rw [List.getD_eq_getElem?_getD, hc] at hj
      subst hj
      exact cell_blank _ _
    | some c =>
      rw [getD_some hc] at hj e
      subst hj
      have hcell := (row_iff l).1 h j c hc
      obtain ⟨⟨b1, b2⟩, f2, f0⟩ := row_kp h j c hc
      by_cases w1 : c.w = 1
      · rw [cell_1 w1] at hcell ⊢; exact hcell
      by_cases w2 : c.w = 2
      · rw [cell_2 w2] at hcell ⊢
        obtain ⟨q, hq, hq0⟩ := f2.out w2
        rw [hq] at hcell
        rw [if_pos (by omega), getD_some hq, if_neg (by omega)]
        exact hcell
      · have w0 : c.w = 0 := by omega
        rw [cell_0 w0] at hcell ⊢
        obtain ⟨hj1, q, hq, hq2⟩ := f0.out w0
        rw [if_neg (by omega), hq] at hcell
        rw [if_neg (by omega), if_pos (by omega), getD_some hq, if_neg (by omega)]
        exact hcell
theorem valid_rows {L : List Cl} {R C : Nat} : validL L R C = true ↔ ∀ k, k < R → rowB (rowL L C k) = true := by
  unfold validL
  rw [List.all_eq_true]
  exact ⟨fun h k hk => h k (List.mem_range.2 hk), fun h k hk => h k (List.mem_range.1 hk)⟩
theorem putL_valid {L : List Cl} {R C k i n : Nat} (hL : L.length = R * C) (hv : validL L R C = true) (hk : k < R) (hn : n = 1 ∨ n = 2) (hi : i + n ≤ C) {c : Cl} (hc : c.w = n) (hr : cells c.r = n) (hs : styC c = true) : validL (putL L (k * C + i) n c) R C = true := by
  rw [put_rows hL hv hk hn hi, valid_rows]
  rw [valid_rows] at hv
  have hl := rowL_len hL hk
  intro q hq
  rw [row_replR hL hk (by rw [put_len, hl])]
  split
  · exact put_row (hv k hk) hn (by rw [hl]; exact hi) hc hr hs
  · exact hv q hq
theorem okP_facts {f : Fr} {row col : Int} {x : Cl} (h : okP f row col x = true) : ∃ n : Nat, cells x.r = n ∧ (n = 1 ∨ n = 2) ∧ styC x = true ∧ 0 ≤ row ∧ row < f.rows ∧ 0 ≤ col ∧ col + n ≤ f.cols := by
  unfold okP at h
  simp only [Bool.and_eq_true, decide_eq_true_eq] at h
  obtain ⟨⟨h0, hs⟩, h1, h2, h3, h4⟩ := h
  have hb := cells_bd x.r
  exact ⟨(cells x.r).toNat, by omega, by omega, hs, h1, h2, h3, by omega⟩
theorem putF_valid {f : Fr} (h : validF f = true) (row col : Int) (x : Cl) : validF (putF f row col x) = true := by
  unfold putF
  rw [if_pos h]
  split
  case isFalse => exact h
  case isTrue hok =>
    obtain ⟨n, hn, hn12, hs, r1, r2, c1, c2⟩ := okP_facts hok
    obtain ⟨R, C, hR, hC, h1, h2, h3, h4, hL, q1, q2, q3, q4, hv⟩ := valid_facts h
    obtain ⟨k, rfl⟩ : ∃ k : Nat, row = k := ⟨row.toNat, by omega⟩
    obtain ⟨i, rfl⟩ : ∃ i : Nat, col = i := ⟨col.toNat, by omega⟩
    rw [hR, hC, hn]
    rw [hR] at r2
    rw [hC] at c2
    have e : ((k : Int) * (C : Int) + (i : Int)).toNat = k * C + i := by
      rw [show (k : Int) * (C : Int) + (i : Int) = ((k * C + i : Nat) : Int) by push_cast; rfl]; exact Int.toNat_natCast _
    rw [e, Int.toNat_natCast]
    refine frame_of h1 h2 h3 h4 (by rw [put_len]; exact hL) ⟨q1, q2, q3, q4⟩ (putL_valid hL hv (by omega) hn12 (by omega) ?_ ?_ ?_)
    · exact hn
    · exact hn
    · exact hs
theorem resF_valid {f : Fr} {rows cols : Int} (h : resOk f rows cols = true) : validF (resF f rows cols) = true := by
  have h0 := h
  unfold resF
  rw [if_pos h]
  unfold resOk mayB at h0
  simp only [Bool.and_eq_true, decide_eq_true_eq] at h0
  obtain ⟨⟨m1, m2, m3, m4⟩, hv⟩ := h0
  obtain ⟨R, C, hR, hC, h1, h2, h3, h4, hL, q1, q2, q3, q4, hvl⟩ := valid_facts hv
  obtain ⟨R', rfl⟩ : ∃ k : Nat, rows = k := ⟨rows.toNat, by omega⟩
  obtain ⟨C', rfl⟩ : ∃ k : Nat, cols = k := ⟨cols.toNat, by omega⟩
  rw [hR, hC]
  simp only [Int.toNat_natCast]
  refine frame_of (by omega) (by omega) (by omega) (by omega) (resTo_len _ _ _ _ _ (Nat.min_le_left _ _)) ⟨by omega, by omega, by omega, by omega⟩ ?_
  rw [valid_rows]
  rw [valid_rows] at hvl
  intro q hq
  rw [resTo_row _ _ _ _ _ (Nat.min_le_left _ _) q hq]
  split
  · exact rowR_row (hvl q (by omega)) (by omega)
  · exact blank_row _
theorem newF_valid {rows cols : Int} (h : mayB rows cols = true) : validF (newF rows cols) = true := by
  have h0 := h
  unfold newF
  rw [if_pos h]
  unfold mayB at h0
  simp only [decide_eq_true_eq] at h0
  obtain ⟨R', rfl⟩ : ∃ k : Nat, rows = k := ⟨rows.toNat, by omega⟩
  obtain ⟨C', rfl⟩ : ∃ k : Nat, cols = k := ⟨cols.toNat, by omega⟩
  simp only [Int.toNat_natCast]
  refine frame_of (by omega) (by omega) (by omega) (by omega) (by simp) ⟨by omega, by omega, by omega, by omega⟩ ?_
  rw [valid_rows]
  intro q hq
  have := resTo_row [] 0 C' R' 0 (by omega) q hq
  rw [if_neg (by omega)] at this
  unfold resTo at this
  rw [this]
  exact blank_row _
/-- How many of the first i cells are unlike. -/
def diffTo (A B : List Cl) : Nat → Nat
  | 0 => 0
  | i + 1 => diffTo A B i + if A[i]? = B[i]? then 0 else 1
theorem diffTo_le (A B : List Cl) : ∀ i, diffTo A B i ≤ i
  | 0 => Nat.le_refl _
  | i + 1 => by have := diffTo_le A B i; unfold diffTo; split <;> omega
theorem diffTo_sym (A B : List Cl) : ∀ i, diffTo A B i = diffTo B A i
  | 0 => rfl
  | i + 1 => by
    unfold diffTo
    rw [diffTo_sym A B i]
    by_cases h : A[i]? = B[i]?
    · rw [if_pos h, if_pos h.symm]
    · rw [if_neg h, if_neg (fun e => h e.symm)]
theorem diffTo_self (A : List Cl) : ∀ i, diffTo A A i = 0
  | 0 => rfl
  | i + 1 => by unfold diffTo; rw [diffTo_self A i, if_pos rfl]
theorem diffTo_zero {A B : List Cl} : ∀ {i}, diffTo A B i = 0 → ∀ j, j < i → A[j]? = B[j]?
  | 0, _, j, hj => by omega
  | i + 1, h, j, hj => by
    unfold diffTo at h
    have h1 : diffTo A B i = 0 := by omega
    rcases Nat.lt_succ_iff_lt_or_eq.1 hj with a | rfl
    · exact diffTo_zero h1 j a
    · by_cases e : A[j]? = B[j]?
      · exact e
      · rw [if_neg e] at h; omega
/-- Where only the cells from a up to b are unlike, no more are. -/
theorem diffTo_span {A B : List Cl} {a b : Nat} (h : ∀ j, ¬ (a ≤ j ∧ j < b) → A[j]? = B[j]?) : ∀ i, diffTo A B i ≤ min i b - min i a
  | 0 => by simp [diffTo]
  | i + 1 => by
    have := diffTo_span h i
    unfold diffTo
    by_cases e : a ≤ i ∧ i < b
    · split <;> omega
    · rw [if_pos (h i e)]; omega
def diffOk (f g : Fr) : Bool := validF f && validF g && decide (f.rows = g.rows) && decide (f.cols = g.cols)
def diffF (f g : Fr) : Int := if diffOk f g = true then (diffTo f.cs g.cs f.cs.length : Nat) else -1
theorem put_diff {f : Fr} (h : validF f = true) {row col : Int} {x : Cl} (hok : okP f row col x = true) : diffF f (putF f row col x) ≤ cells x.r + 2 := by
  have hp := putF_valid h row col x
  unfold diffF diffOk
  rw [h, hp]
  unfold putF
  rw [if_pos h, if_pos hok]
  simp only [Bool.and_self, decide_true, Bool.true_and, if_true]
  obtain ⟨n, hn, hn12, hs, r1, r2, c1, c2⟩ := okP_facts hok
  obtain ⟨R, C, hR, hC, h1, h2, h3, h4, hL, q1, q2, q3, q4, hv⟩ := valid_facts h
  obtain ⟨k, rfl⟩ : ∃ k : Nat, row = k := ⟨row.toNat, by omega⟩
  obtain ⟨i, rfl⟩ : ∃ i : Nat, col = i := ⟨col.toNat, by omega⟩
  rw [hR] at r2
  rw [hC] at c2
  have e : ((k : Int) * (C : Int) + (i : Int)).toNat = k * C + i := by
    rw [show (k : Int) * (C : Int) + (i : Int) = ((k * C + i : Nat) : Int) by push_cast; rfl]; exact Int.toNat_natCast _
  rw [hC, hn, e, Int.toNat_natCast]
  have hsp := spot_in (R := R) (C := C) (k := k) (j := i + n - 1) (by omega) (by omega)
  have hd := diffTo_span (A := f.cs) (B := putL f.cs (k * C + i) n (inkC x)) (a := k * C + i - 1) (b := k * C + i + n + 1) (fun j hj => by
    rw [putL_at (row_whole R f.cs C hL hv) hn12 (by rw [hL]; omega)]
    unfold putAt
    rw [if_neg (by omega), if_neg (by omega), if_neg (by omega)]) f.cs.length
  have : diffTo f.cs (putL f.cs (k * C + i) n (inkC x)) f.cs.length ≤ n + 2 := by omega
  exact_mod_cast this
theorem put_spot {f : Fr} (h : validF f = true) {row col : Int} {x : Cl} (hok : okP f row col x = true) : (putF f row col x).cs[(row * f.cols + col).toNat]? = some (inkC x) := by
  unfold putF
  rw [if_pos h, if_pos hok]
  obtain ⟨n, hn, hn12, hs, r1, r2, c1, c2⟩ := okP_facts hok
  obtain ⟨R, C, hR, hC, h1, h2, h3, h4, hL, q1, q2, q3, q4, hv⟩ := valid_facts h
  obtain ⟨k, rfl⟩ : ∃ k : Nat, row = k := ⟨row.toNat, by omega⟩
  obtain ⟨i, rfl⟩ : ∃ i : Nat, col = i := ⟨col.toNat, by omega⟩
  rw [hR] at r2
  rw [hC] at c2
  have e : ((k : Int) * (C : Int) + (i : Int)).toNat = k * C + i := by
    rw [show (k : Int) * (C : Int) + (i : Int) = ((k * C + i : Nat) : Int) by push_cast; rfl]; exact Int.toNat_natCast _
  have hsp := spot_in (R := R) (C := C) (k := k) (j := i + n - 1) (by omega) (by omega)
  rw [hC, hn, e, Int.toNat_natCast]
  dsimp only
  rw [putL_at (row_whole R f.cs C hL hv) hn12 (by rw [hL]; omega)]
  unfold putAt
  rw [if_pos rfl]
theorem diff_same {f g : Fr} (hf : validF f = true) (hg : validF g = true) (hr : f.rows = g.rows) (hc : f.cols = g.cols) : 0 ≤ diffF f g ∧ diffF f g = diffF g f ∧ diffF f f = 0 ∧ (decide (f = g) = (decide (diffF f g = 0) && decide (f.row = g.row) && decide (f.col = g.col))) := by
  obtain ⟨R, C, hR, hC, h1, h2, h3, h4, hL, q1, q2, q3, q4, hv⟩ := valid_facts hf
  obtain ⟨R', C', hR', hC', h1', h2', h3', h4', hL', q1', q2', q3', q4', hv'⟩ := valid_facts hg
  have eR : R' = R := by rw [hR, hR'] at hr; exact_mod_cast hr.symm
  have eC : C' = C := by rw [hC, hC'] at hc; exact_mod_cast hc.symm
  subst eR eC
  unfold diffF diffOk
  rw [hf, hg]
  simp only [hr, hc, Bool.and_self, decide_true, if_true, hL, hL', diffTo_self]
  refine ⟨Int.natCast_nonneg _, by rw [diffTo_sym], rfl, ?_⟩
  by_cases h0 : diffTo f.cs g.cs (R' * C') = 0
  · have : f.cs = g.cs := by
      apply List.ext_getElem?
      intro j
      by_cases hj : j < R' * C'
      · exact diffTo_zero h0 j hj
      · rw [List.getElem?_eq_none (by omega), List.getElem?_eq_none (by omega)]
    obtain ⟨a, b, c, d, e⟩ := f
    obtain ⟨a', b', c', d', e'⟩ := g
    dsimp only at this hr hc ⊢
    subst this hr hc
    simp [diffTo_self]
  · have hne : f ≠ g := fun e => h0 (by rw [e, diffTo_self])
    rw [decide_eq_false hne]
    have : ¬ ((diffTo f.cs g.cs (R' * C') : Nat) : Int) = 0 := by exact_mod_cast h0
    rw [decide_eq_false this]
    rfl
/-- Rows that are one and the same. -/
theorem rows_ext {A B : List Cl} {R C : Nat} (hC : 0 < C) (hA : A.length = R * C) (hB : B.length = R * C) (h : ∀ k, k < R → rowL A C k = rowL B C k) : A = B := by
  apply List.ext_getElem?
  intro j
  by_cases hj : j < R * C
  · have hk : j / C < R := by rw [Nat.div_lt_iff_lt_mul hC]; exact hj
    have := h _ hk
    have e : j / C * C + j % C = j := by rw [Nat.mul_comm]; exact Nat.div_add_mod j C
    have hm := Nat.mod_lt j hC
    rw [← e, ← rowL_at hm, ← rowL_at hm, this]
  · rw [List.getElem?_eq_none (by omega), List.getElem?_eq_none (by omega)]
/-- Larger, and as it was. -/
theorem rowR_back {l : List Cl} (h : rowB l = true) {n : Nat} (hn : l.length ≤ n) (h0 : 0 < l.length) : rowR (rowR l n) l.length = l := by
  apply List.ext_getElem?
  intro j
  rw [rowR_at _ h0]
  by_cases hj : j < l.length
  · have hx := List.getElem?_eq_getElem hj
    obtain ⟨c, hc⟩ : ∃ c, l[j] = c := ⟨_, rfl⟩
    rw [hc] at hx
    obtain ⟨-, f2, -⟩ := row_kp h j c hx
    have hg : (rowR l n).getD j blankC = c := by
      apply getD_some
      rw [rowR_at _ (by omega), if_pos (by omega), getD_some hx, if_neg]
      rintro ⟨a, b⟩
      obtain ⟨d, hd, _⟩ := f2.out b
      have := (List.getElem?_eq_some_iff.1 hd).1
      omega
    rw [if_pos hj, hg, hx, if_neg]
    rintro ⟨a, b⟩
    obtain ⟨d, hd, _⟩ := f2.out b
    have := (List.getElem?_eq_some_iff.1 hd).1
    omega
  · rw [if_neg hj, List.getElem?_eq_none (by omega)]
theorem res_back {f : Fr} (h : validF f = true) {rows cols : Int} (hm : mayB rows cols = true) (hr : f.rows ≤ rows) (hc : f.cols ≤ cols) : resF (resF f rows cols) f.rows f.cols = f := by
  obtain ⟨R, C, hR, hC, h1, h2, h3, h4, hL, q1, q2, q3, q4, hv⟩ := valid_facts h
  have hok : resOk f rows cols = true := by unfold resOk; rw [h, hm]; rfl
  have hv2 := resF_valid hok
  have hm2 : mayB f.rows f.cols = true := by unfold mayB; rw [hR, hC]; simp; omega
  have hok2 : resOk (resF f rows cols) f.rows f.cols = true := by unfold resOk; rw [hv2, hm2]; rfl
  unfold mayB at hm
  simp only [decide_eq_true_eq] at hm
  rw [resF, if_pos hok2]
  rw [resF, if_pos hok]
  obtain ⟨rw', cl', cs, row, col⟩ := f
  dsimp only at *
  subst hR hC
  obtain ⟨R', rfl⟩ : ∃ k : Nat, rows = k := ⟨rows.toNat, by omega⟩
  obtain ⟨C', rfl⟩ : ∃ k : Nat, cols = k := ⟨cols.toNat, by omega⟩
  simp only [Int.toNat_natCast]
  rw [Fr.mk.injEq]
  refine ⟨rfl, rfl, ?_, by omega, by omega⟩
  rw [valid_rows] at hv
  refine rows_ext (by omega) (resTo_len _ _ _ _ _ (Nat.min_le_left _ _)) hL fun k hk => ?_
  rw [resTo_row _ _ _ _ _ (Nat.min_le_left _ _) k hk, if_pos (by omega), resTo_row _ _ _ _ _ (Nat.min_le_left _ _) k (by omega), if_pos (by omega)]
  have hl := rowL_len hL hk
  have := rowR_back (hv k hk) (n := C') (by omega) (by omega)
  rw [hl] at this
  exact this
/-- Smaller, and larger again: what was not cut. -/
theorem res_fore {f : Fr} (h : validF f = true) {R' C' : Nat} (hm : mayB R' C' = true) (hr : (R' : Int) ≤ f.rows) (hc : (C' : Int) ≤ f.cols) {j : Nat} (hj : j < f.cs.length) (h1 : j / f.cols.toNat < R') (h2 : j % f.cols.toNat + 1 < C') :
    (resF (resF f R' C') f.rows f.cols).cs[j]? = f.cs[j]? := by
  obtain ⟨R, C, hR, hC, b1, b2, b3, b4, hL, q1, q2, q3, q4, hv⟩ := valid_facts h
  have hok : resOk f R' C' = true := by unfold resOk; rw [h, hm]; rfl
  have hv2 := resF_valid hok
  have hm2 : mayB f.rows f.cols = true := by unfold mayB; rw [hR, hC]; simp; omega
  have hok2 : resOk (resF f R' C') f.rows f.cols = true := by unfold resOk; rw [hv2, hm2]; rfl
  rw [resF, if_pos hok2]
  rw [resF, if_pos hok]
  obtain ⟨rw', cl', cs, row, col⟩ := f
  dsimp only at *
  subst hR hC
  simp only [Int.toNat_natCast] at *
  have hk : j / C < R := by omega
  have hmd := Nat.mod_lt j (show 0 < C by omega)
  have e : j / C * C + j % C = j := by rw [Nat.mul_comm]; exact Nat.div_add_mod j C
  have hx := List.getElem?_eq_getElem hj
  have hlen := rowL_len hL hk
  rw [valid_rows] at hv
  rw [← e, ← rowL_at hmd, ← rowL_at hmd, resTo_row _ _ _ _ _ (Nat.min_le_left _ _) _ hk, if_pos (by omega), resTo_row _ _ _ _ _ (Nat.min_le_left _ _) _ h1, if_pos (by omega)]
  obtain ⟨l, hl⟩ : ∃ l, rowL cs C (j / C) = l := ⟨_, rfl⟩
  rw [hl] at hlen ⊢
  have hrow : rowB l = true := by rw [← hl]; exact hv _ hk
  obtain ⟨c, hc'⟩ : ∃ c, l[j % C]? = some c := ⟨_, List.getElem?_eq_getElem (by omega)⟩
  obtain ⟨-, f2, -⟩ := row_kp hrow _ c hc'
  have hg : (rowR l C').getD (j % C) blankC = c := by
    apply getD_some
    rw [rowR_at _ (by omega), if_pos (by omega), getD_some hc', if_neg (by omega)]
  rw [rowR_at _ (by omega), if_pos hmd, hg, hc', if_neg (by omega)]
end Go.Proofs.YtmemdhmjhckmaaaDoor
namespace Go.Proofs.YtmemdhmjhckmaaaDoor

theorem dec_1 {s : ByteArray} {i r : Nat} (h0 : (s.get! i).toNat = r) (hr : r < 128) : Utf8.decode s i = (r, 1) := by
  unfold Utf8.decode; simp only [Nat.add_zero]; rw [if_pos (by omega), h0]
theorem dec_2 {s : ByteArray} {i r : Nat} (h0 : (s.get! i).toNat = 192 + r / 64) (h1 : (s.get! (i + 1)).toNat = 128 + r % 64) (hi : i + 2 ≤ s.size) (hr : 128 ≤ r) (hr2 : r < 2048) : Utf8.decode s i = (r, 2) := by
  have e : (s.get! i).toNat % 32 * 64 + (s.get! (i + 1)).toNat % 64 = r := by omega
  unfold Utf8.decode; simp only [Nat.add_zero]
  rw [if_neg (by omega), if_pos (by simp; omega)]
  simp only [e]
  rw [if_pos (by omega)]
theorem dec_3 {s : ByteArray} {i r : Nat} (h0 : (s.get! i).toNat = 224 + r / 4096) (h1 : (s.get! (i + 1)).toNat = 128 + r / 64 % 64) (h2 : (s.get! (i + 2)).toNat = 128 + r % 64) (hi : i + 3 ≤ s.size) (hr : 2048 ≤ r) (hr2 : r < 65536) (hv : r < 55296 ∨ 57344 ≤ r) : Utf8.decode s i = (r, 3) := by
  have e : (s.get! i).toNat % 16 * 4096 + (s.get! (i + 1)).toNat % 64 * 64 + (s.get! (i + 2)).toNat % 64 = r := by omega
  unfold Utf8.decode; simp only [Nat.add_zero]
  rw [if_neg (by omega), if_neg (by simp; omega), if_pos (by simp; omega)]
  simp only [e]
  rw [if_pos (by rw [Bool.and_eq_true, valid_of (by omega)]; simp; omega)]
theorem dec_4 {s : ByteArray} {i r : Nat} (h0 : (s.get! i).toNat = 240 + r / 262144) (h1 : (s.get! (i + 1)).toNat = 128 + r / 4096 % 64) (h2 : (s.get! (i + 2)).toNat = 128 + r / 64 % 64) (h3 : (s.get! (i + 3)).toNat = 128 + r % 64) (hi : i + 4 ≤ s.size) (hr : 65536 ≤ r) (hr2 : r ≤ 1114111) : Utf8.decode s i = (r, 4) := by
  have e : (s.get! i).toNat % 8 * 262144 + (s.get! (i + 1)).toNat % 64 * 4096 + (s.get! (i + 2)).toNat % 64 * 64 + (s.get! (i + 3)).toNat % 64 = r := by omega
  unfold Utf8.decode; simp only [Nat.add_zero]
  rw [if_neg (by omega), if_neg (by simp; omega), if_neg (by simp; omega), if_pos (by simp; omega)]
  simp only [e]
  rw [if_pos (by rw [Bool.and_eq_true, valid_of (by omega)]; simp; omega)]

theorem get_list {s : ByteArray} {i k : Nat} {l : List UInt8} (h : s.extract i (i + l.length) = ⟨l.toArray⟩) (hs : i + l.length ≤ s.size) (hk : k < l.length) : s.get! (i + k) = l[k] := by
  rw [ext_get s i l.length hs, list_eq] at h
  have := congrArg (fun m => m[k]?) h
  simp [hk] at this
  exact this
theorem ofNat_toNat {n : Nat} (h : n < 256) : (UInt8.ofNat n).toNat = n := by simp; omega

/-- A rune is read as it was put, whatever stands around it. -/
theorem decode_put {s : ByteArray} {i : Nat} {r : Int} (hv : (0 ≤ r ∧ r < 55296) ∨ (57344 ≤ r ∧ r ≤ 1114111)) (h : s.extract i (i + (putS r).size) = putS r) (hs : i + (putS r).size ≤ s.size) : Utf8.decode s i = (r.toNat, (putS r).size) ∧ 1 ≤ (putS r).size ∧ (putS r).size ≤ 4 := by
  rcases put_cases r with ⟨e, b⟩ | ⟨e, b⟩ | ⟨e, b⟩ | ⟨e, b⟩ | ⟨e, b⟩
  · omega
  · have z : (putS r).size = 1 := by rw [e]; rfl
    rw [z] at hs h ⊢
    rw [e] at h
    have g0 := get_list (l := [UInt8.ofNat r.toNat]) h hs (k := 0) (by simp)
    exact ⟨dec_1 (by simpa using (congrArg UInt8.toNat g0).trans (ofNat_toNat (by omega))) (by omega), by omega, by omega⟩
  · have z : (putS r).size = 2 := by rw [e]; rfl
    rw [z] at hs h ⊢
    rw [e] at h
    have g0 := get_list (l := [UInt8.ofNat (192 + r / 64).toNat, UInt8.ofNat (128 + r % 64).toNat]) h hs (k := 0) (by simp)
    have g1 := get_list (l := [UInt8.ofNat (192 + r / 64).toNat, UInt8.ofNat (128 + r % 64).toNat]) h hs (k := 1) (by simp)
    have t0 := (congrArg UInt8.toNat g0).trans (ofNat_toNat (by omega))
    have t1 := (congrArg UInt8.toNat g1).trans (ofNat_toNat (by omega))
    rw [Nat.add_zero] at t0
    exact ⟨dec_2 (r := r.toNat) (by omega) (by omega) hs (by omega) (by omega), by omega, by omega⟩
  · have z : (putS r).size = 3 := by rw [e]; rfl
    rw [z] at hs h ⊢
    rw [e] at h
    have g0 := get_list (l := [UInt8.ofNat (224 + r / 4096).toNat, UInt8.ofNat (128 + r / 64 % 64).toNat, UInt8.ofNat (128 + r % 64).toNat]) h hs (k := 0) (by simp)
    have g1 := get_list (l := [UInt8.ofNat (224 + r / 4096).toNat, UInt8.ofNat (128 + r / 64 % 64).toNat, UInt8.ofNat (128 + r % 64).toNat]) h hs (k := 1) (by simp)
    have g2 := get_list (l := [UInt8.ofNat (224 + r / 4096).toNat, UInt8.ofNat (128 + r / 64 % 64).toNat, UInt8.ofNat (128 + r % 64).toNat]) h hs (k := 2) (by simp)
    have t0 := (congrArg UInt8.toNat g0).trans (ofNat_toNat (by omega))
    have t1 := (congrArg UInt8.toNat g1).trans (ofNat_toNat (by omega))
    have t2 := (congrArg UInt8.toNat g2).trans (ofNat_toNat (by omega))
    rw [Nat.add_zero] at t0
    exact ⟨dec_3 (r := r.toNat) (by omega) (by omega) (by omega) hs (by omega) (by omega) (by omega), by omega, by omega⟩
  · have z : (putS r).size = 4 := by rw [e]; rfl
    rw [z] at hs h ⊢
    rw [e] at h
    have g0 := get_list (l := [UInt8.ofNat (240 + r / 262144).toNat, UInt8.ofNat (128 + r / 4096 % 64).toNat, UInt8.ofNat (128 + r / 64 % 64).toNat, UInt8.ofNat (128 + r % 64).toNat]) h hs (k := 0) (by simp)
    have g1 := get_list (l := [UInt8.ofNat (240 + r / 262144).toNat, UInt8.ofNat (128 + r / 4096 % 64).toNat, UInt8.ofNat (128 + r / 64 % 64).toNat, UInt8.ofNat (128 + r % 64).toNat]) h hs (k := 1) (by simp)
    have g2 := get_list (l := [UInt8.ofNat (240 + r / 262144).toNat, UInt8.ofNat (128 + r / 4096 % 64).toNat, UInt8.ofNat (128 + r / 64 % 64).toNat, UInt8.ofNat (128 + r % 64).toNat]) h hs (k := 2) (by simp)
    have g3 := get_list (l := [UInt8.ofNat (240 + r / 262144).toNat, UInt8.ofNat (128 + r / 4096 % 64).toNat, UInt8.ofNat (128 + r / 64 % 64).toNat, UInt8.ofNat (128 + r % 64).toNat]) h hs (k := 3) (by simp)
    have t0 := (congrArg UInt8.toNat g0).trans (ofNat_toNat (by omega))
    have t1 := (congrArg UInt8.toNat g1).trans (ofNat_toNat (by omega))
    have t2 := (congrArg UInt8.toNat g2).trans (ofNat_toNat (by omega))
    have t3 := (congrArg UInt8.toNat g3).trans (ofNat_toNat (by omega))
    rw [Nat.add_zero] at t0
    exact ⟨dec_4 (r := r.toNat) (by omega) (by omega) (by omega) (by omega) hs (by omega) (by omega), by omega, by omega⟩
theorem extract_whole (s : ByteArray) : s.extract 0 (0 + s.size) = s := by
  rw [Nat.zero_add, Lib.extract_eq]; cases s with | mk d => cases d with | mk l => simp [ByteArray.size]
theorem decode_alone {r : Int} (hv : (0 ≤ r ∧ r < 55296) ∨ (57344 ≤ r ∧ r ≤ 1114111)) : Utf8.decode (putS r) 0 = (r.toNat, (putS r).size) ∧ 1 ≤ (putS r).size ∧ (putS r).size ≤ 4 :=
  decode_put hv (extract_whole _) (by omega)
end Go.Proofs.YtmemdhmjhckmaaaDoor
namespace Go.Proofs.YtmemdhmjhckmaaaDoor

theorem join_data (a b : ByteArray) : (a ++ b).data.toList = a.data.toList ++ b.data.toList := by simp
theorem join_size (a b : ByteArray) : (a ++ b).size = a.size + b.size := ByteArray.size_append
theorem size_list (a : ByteArray) : a.size = a.data.toList.length := rfl
theorem join_front {a b : ByteArray} {i n : Nat} (h : i + n ≤ a.size) : (a ++ b).extract i (i + n) = a.extract i (i + n) := by
  rw [Lib.extract_eq, Lib.extract_eq, join_data]
  have : i ≤ a.data.toList.length := by rw [← size_list]; omega
  rw [List.drop_append_of_le_length this, List.take_append_of_le_length (by rw [List.length_drop, ← size_list]; omega)]
theorem join_tail (a b : ByteArray) : (a ++ b).extract a.size (a ++ b).size = b := by
  rw [Lib.extract_eq, join_data, join_size, List.drop_append_of_le_length (by rw [← size_list]; exact Nat.le_refl _), List.drop_of_length_le (by rw [← size_list]; exact Nat.le_refl _), List.nil_append, Nat.add_sub_cancel_left, List.take_of_length_le (by rw [← size_list]; exact Nat.le_refl _)]
theorem decode_behind (a b : ByteArray) (j : Nat) : Utf8.decode (a ++ b) (a.size + j) = Utf8.decode b j := by
  rw [← Lib.tail_decode, join_tail]

/-- Where a rune stands, its bytes are those that it is put as. -/
theorem ok_put {s : ByteArray} {i : Nat} (hi : i < s.size) (h : (dec3 s i).2.2 = true) : ∃ r : Int, ((0 ≤ r ∧ r < 55296) ∨ (57344 ≤ r ∧ r ≤ 1114111)) ∧ s.extract i (i + (putS r).size) = putS r ∧ i + (putS r).size ≤ s.size := by
  rw [← nxt_dec s i hi] at h
  unfold nxt at h
  dsimp only at h
  split at h
  · rename_i hc
    obtain ⟨h0, h1, h2⟩ := hc
    have hz : (putS (acc s i (begN (s.get! i).toNat))).size = begN (s.get! i).toNat := by
      rw [h2, ext_get s i _ h1]; simp [ByteArray.size]
    refine ⟨acc s i (begN (s.get! i).toNat), ?_, by rw [hz, h2], by rw [hz]; exact h1⟩
    rcases put_cases (acc s i (begN (s.get! i).toNat)) with ⟨e, b⟩ | b | b | b | b
    · rw [e] at hz; simp [ByteArray.size] at hz; omega
    all_goals omega
  · simp at h
theorem decode_front {a b : ByteArray} {i : Nat} (hi : i < a.size) (h : (dec3 a i).2.2 = true) : Utf8.decode (a ++ b) i = Utf8.decode a i ∧ i + (Utf8.decode a i).2 ≤ a.size := by
  obtain ⟨r, hv, he, hs⟩ := ok_put hi h
  have d := (decode_put hv he hs).1
  have e := (decode_put (s := a ++ b) hv (by rw [join_front hs, he]) (by rw [join_size]; omega)).1
  exact ⟨by rw [d, e], by rw [d]; exact hs⟩

theorem valid_at (s : ByteArray) (i : Nat) (hi : i < s.size) : Lib.validD (s.data.toList.drop i) = ((dec3 s i).2.2 && Lib.validD (s.data.toList.drop (i + (Utf8.decode s i).2))) := by
  have hne : s.data.toList.drop i ≠ [] := by
    intro h; have := congrArg List.length h; rw [List.length_drop, ← size_list] at this; simp at this; omega
  rw [Lib.validD_step _ hne, Lib.decodeL_drop, List.drop_drop]
  unfold dec3
  by_cases h : (Utf8.decode s i).1 = 65533 ∧ (Utf8.decode s i).2 = 1
  · rw [if_pos h]; simp [h.1, h.2]
  · rw [if_neg h]
    have : (!((Utf8.decode s i).1 == 65533 && (Utf8.decode s i).2 == 1)) = true := by
      simp only [Bool.not_eq_true', Bool.and_eq_false_iff, beq_eq_false_iff_ne]; omega
    rw [this, Bool.true_and]

/-- A sum over the runes of two texts, the first one Valid, is that of both. -/
theorem sum_join (g : Nat → Nat → Int) (F : ByteArray → Nat → Nat → Int) (hend : ∀ s f pos, ¬ pos < s.size → F s f pos = 0) (hgo : ∀ s f pos, pos < s.size → F s (f + 1) pos = g (Utf8.decode s pos).1 (Utf8.decode s pos).2 + F s f (pos + (Utf8.decode s pos).2)) (a b : ByteArray) :
    (∀ (f k pos : Nat), b.size ≤ pos + f → b.size ≤ pos + k → F b f pos = F b k pos) ∧ (∀ (f pos : Nat), b.size ≤ pos + f → F (a ++ b) f (a.size + pos) = F b f pos) ∧ ∀ (f k pos : Nat), pos ≤ a.size → a.size ≤ pos + k → a.size + b.size ≤ pos + f → Lib.validD (a.data.toList.drop pos) = true → F (a ++ b) f pos = F a k pos + F b b.size 0 := by
  have A : ∀ (f k pos : Nat), b.size ≤ pos + f → b.size ≤ pos + k → F b f pos = F b k pos := by
    intro f
    induction f with
    | zero => intro k pos h1 h2; rw [hend _ _ _ (by omega), hend _ _ _ (by omega)]
    | succ f ih =>
      intro k pos h1 h2
      by_cases hp : pos < b.size
      · obtain ⟨k, rfl⟩ : ∃ m, k = m + 1 := ⟨k - 1, by omega⟩
        have hw := Lib.width_pos b pos
        rw [hgo _ _ _ hp, hgo _ _ _ hp, ih k _ (by omega) (by omega)]
      · rw [hend _ _ _ hp, hend _ _ _ hp]
  have B : ∀ (f pos : Nat), b.size ≤ pos + f → F (a ++ b) f (a.size + pos) = F b f pos := by
    intro f
    induction f with
    | zero => intro pos h; rw [hend _ _ _ (by rw [join_size]; omega), hend _ _ _ (by omega)]
    | succ f ih =>
      intro pos h
      by_cases hp : pos < b.size
      · have hw := Lib.width_pos b pos
        rw [hgo _ _ _ (by rw [join_size]; omega), hgo _ _ _ hp, decode_behind, Nat.add_assoc, ih _ (by omega)]
      · rw [hend _ _ _ (by rw [join_size]; omega), hend _ _ _ hp]
  refine ⟨A, B, ?_⟩
  intro f
  induction f with
  | zero =>
    intro k pos h1 h2 h3 _
    rw [hend _ _ _ (by rw [join_size]; omega), hend a _ _ (by omega), hend b _ _ (by omega)]; rfl
  | succ f ih =>
    intro k pos h1 h2 h3 hv
    by_cases hp : pos < a.size
    · obtain ⟨k, rfl⟩ : ∃ m, k = m + 1 := ⟨k - 1, by omega⟩
      rw [valid_at a pos hp, Bool.and_eq_true] at hv
      obtain ⟨e, hle⟩ := decode_front (b := b) hp hv.1
      have hw := Lib.width_pos a pos
      rw [hgo _ _ _ (by rw [join_size]; omega), hgo _ _ _ hp, e, ih k _ hle (by omega) (by omega) hv.2, Int.add_assoc]
    · have hz : pos = a.size + 0 := by omega
      rw [hend a _ _ hp, hz, B (f + 1) 0 (by omega), A (f + 1) b.size 0 (by omega) (by omega), Int.zero_add]
end Go.Proofs.YtmemdhmjhckmaaaDoor
