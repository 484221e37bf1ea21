/- Plain: a frame with a rune put in. No program in sight. -/
import Derived.Test.YtojjdckpbmjjdaaDoorGput2
namespace Go.Proofs.YtojjdckpbmjjdaaDoor

/-- The cell of a rune in a style. -/
def inkC (x : Cl) : Cl := ⟨x.r, cells x.r, x.fg, x.bo, x.un, x.iv⟩
/-- Is there anything to be put in? -/
def okP (f : Fr) (row col : Int) (x : Cl) : Bool := decide (cells x.r ≠ 0) && styC x && decide (0 ≤ row ∧ row < f.rows ∧ 0 ≤ col ∧ col + cells x.r ≤ f.cols)
def putF (f : Fr) (row col : Int) (x : Cl) : Fr :=
  if validF f = true then if okP f row col x = true then ⟨f.rows, f.cols, putL f.cs (row * f.cols + col).toNat (cells x.r).toNat (inkC x), f.row, f.col⟩ else f else noF
/-- What is known of a frame that may be. -/
theorem valid_facts {f : Fr} (h : validF f = true) : ∃ R C : Nat, f.rows = R ∧ f.cols = C ∧ 2 ≤ R ∧ R ≤ 100 ∧ 8 ≤ C ∧ C ≤ 200 ∧ f.cs.length = R * C ∧ 0 ≤ f.row ∧ f.row < R ∧ 0 ≤ f.col ∧ f.col < C ∧ validL f.cs R C = true := by
  unfold validF mayB sizeB curB at h
  simp only [Bool.and_eq_true, decide_eq_true_eq] at h
  obtain ⟨⟨⟨⟨m1, m2, m3, m4⟩, hs⟩, c1, c2, c3, c4⟩, hv⟩ := h
  obtain ⟨R, hR⟩ : ∃ R : Nat, f.rows = R := ⟨f.rows.toNat, by omega⟩
  obtain ⟨C, hC⟩ : ∃ C : Nat, f.cols = C := ⟨f.cols.toNat, by omega⟩
  rw [hR, hC] at hs hv
  rw [hR] at m1 m2 c2
  rw [hC] at m3 m4 c4
  refine ⟨R, C, hR, hC, by omega, by omega, by omega, by omega, by exact_mod_cast hs, c1, c2, c3, c4, ?_⟩
  simpa using hv
theorem frame_of {R C : Nat} {cs : List Cl} {row col : Int} (h1 : 2 ≤ R) (h2 : R ≤ 100) (h3 : 8 ≤ C) (h4 : C ≤ 200) (hs : cs.length = R * C) (hc : 0 ≤ row ∧ row < R ∧ 0 ≤ col ∧ col < C) (hv : validL cs R C = true) : validF ⟨R, C, cs, row, col⟩ = true := by
  unfold validF mayB sizeB curB
  simp only [Bool.and_eq_true, decide_eq_true_eq, Int.toNat_natCast]
  exact ⟨⟨⟨by omega, by exact_mod_cast hs⟩, hc⟩, hv⟩
theorem size_small {R C : Nat} (h1 : 2 ≤ R) (h2 : R ≤ 100) (h3 : 8 ≤ C) (h4 : C ≤ 200) : 16 ≤ R * C ∧ R * C ≤ 20000 :=
  ⟨Nat.mul_le_mul h1 h3, Nat.mul_le_mul h2 h4⟩
theorem spot_in {R C k j : Nat} (hk : k < R) (hj : j < C) : k * C + j < R * C := by
  have : (k + 1) * C ≤ R * C := Nat.mul_le_mul_right _ hk
  rw [Nat.add_mul, Nat.one_mul] at this
  omega
theorem wipe_next {l : List Cl} (h : rowB l = true) {i : Nat} (hi : i + 2 ≤ l.length) : ∃ y, (wipeL l i)[i + 1]? = some y ∧ (y.w = 2 → i + 1 + 1 < l.length) := by
  have hx := List.getElem?_eq_getElem (show i < l.length by omega)
  have hy := List.getElem?_eq_getElem (show i + 1 < l.length by omega)
  obtain ⟨g1, g2, g3⟩ := row_facts h (i + 1) _ hy
  refine ⟨if l[i].w = 2 then blankC else l[i + 1], ?_, fun h2 => ?_⟩
  · unfold wipeL
    rw [getD_some hx]
    by_cases h2 : l[i].w = 2
    · rw [if_pos h2, if_pos h2]; simp [List.getElem?_set]; omega
    · rw [if_neg h2, if_neg h2]
      split
      · simp only [List.getElem?_set]; simp [show ¬ i - 1 = i + 1 by omega, hy]
      · simp only [List.getElem?_set]; simp [hy]
  · by_cases h9 : l[i].w = 2
    · rw [if_pos h9] at h2; cases h2
    · rw [if_neg h9] at h2
      obtain ⟨d, hd, _⟩ := g2 h2
      exact (List.getElem?_eq_some_iff.1 hd).1
theorem putL_1 (L : List Cl) (i : Nat) (c : Cl) : putL L i 1 c = (wipeL L i).set i c := by unfold putL; rw [if_neg (by omega)]
theorem putL_2 (L : List Cl) (i : Nat) (c : Cl) : putL L i 2 c = ((wipeL (wipeL L i) (i + 1)).set (i + 1) (halfC c)).set i c := by unfold putL; rw [if_pos rfl]
theorem replR_self {L : List Cl} {R C k : Nat} (hL : L.length = R * C) (hk : k < R) : replR L C k (rowL L C k) = L := by
  apply List.ext_getElem?
  intro j
  rw [replR_at hL hk (rowL_len hL hk)]
  have h2 : (k + 1) * C = k * C + C := by rw [Nat.add_mul, Nat.one_mul]
  split
  · rw [rowL_at (by omega), show k * C + (j - k * C) = j by omega]
  · rfl
theorem replR_len {L l : List Cl} {R C k : Nat} (hL : L.length = R * C) (hk : k < R) (hl : l.length = C) : (replR L C k l).length = R * C := by
  have h1 : (k + 1) * C ≤ R * C := Nat.mul_le_mul_right _ hk
  have h2 : (k + 1) * C = k * C + C := by rw [Nat.add_mul, Nat.one_mul]
  unfold replR
  rw [List.length_append, List.length_append, List.length_take, List.length_drop, hl, hL]
  omega
theorem replR_set {L l : List Cl} {R C k i : Nat} (hL : L.length = R * C) (hk : k < R) (hl : l.length = C) (hi : i < C) (x : Cl) : (replR L C k l).set (k * C + i) x = replR L C k (l.set i x) := by
  have h2 : (k + 1) * C = k * C + C := by rw [Nat.add_mul, Nat.one_mul]
  have h3 := spot_in hk hi
  apply List.ext_getElem?
  intro j
  rw [List.getElem?_set, replR_len hL hk hl, replR_at hL hk (l := l.set i x) (by rw [List.length_set]; exact hl), replR_at hL hk hl, List.getElem?_set, hl]
  by_cases e : k * C + i = j
  · subst e
    rw [if_pos rfl, if_pos h3, if_pos (by omega), if_pos (by omega), if_pos hi]
  · rw [if_neg e]
    split
    · rw [if_neg (by omega)]
    · rfl
theorem replR_part {L l : List Cl} {R C k : Nat} (hL : L.length = R * C) (hk : k < R) (hl : l.length = C) : ((replR L C k l).drop (k * C)).take C = l := by
  have h1 : (k + 1) * C ≤ R * C := Nat.mul_le_mul_right _ hk
  have h2 : (k + 1) * C = k * C + C := by rw [Nat.add_mul, Nat.one_mul]
  apply List.ext_getElem?
  intro j
  by_cases hj : j < C
  · rw [List.getElem?_take_of_lt hj, List.getElem?_drop, replR_at hL hk hl, if_pos (by omega), show k * C + j - k * C = j by omega]
  · rw [List.getElem?_take_eq_none (by omega), List.getElem?_eq_none (by omega)]
theorem replR_repl {L l m : List Cl} {R C k : Nat} (hL : L.length = R * C) (hk : k < R) (hl : l.length = C) : replR (replR L C k l) C k m = replR L C k m := by
  have h1 : (k + 1) * C ≤ R * C := Nat.mul_le_mul_right _ hk
  have h2 : (k + 1) * C = k * C + C := by rw [Nat.add_mul, Nat.one_mul]
  have e1 : (L.take (k * C)).length = k * C := by rw [List.length_take]; omega
  have a : (replR L C k l).take (k * C) = L.take (k * C) := by
    unfold replR
    rw [List.append_assoc, List.take_append_of_le_length (by omega), List.take_of_length_le (by omega)]
  have b : (replR L C k l).drop ((k + 1) * C) = L.drop ((k + 1) * C) := by
    unfold replR
    rw [List.drop_append_of_le_length (by rw [List.length_append]; omega), List.drop_eq_nil_of_le (by rw [List.length_append]; omega), List.nil_append]
  show _ ++ m ++ _ = _
  rw [a, b]
  rfl
theorem blank_1 (l : List Cl) (i : Nat) : blankN l i 1 = l.set i blankC := by unfold blankN; rw [if_neg (by omega)]
theorem blank_2 (l : List Cl) (i : Nat) : blankN l i 2 = (l.set i blankC).set (i + 1) blankC := by unfold blankN; rw [if_pos rfl]
end Go.Proofs.YtojjdckpbmjjdaaDoor
