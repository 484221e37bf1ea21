/- The document's way to erase cells, in plain Lean: a blank is laid at both ends, then all between. -/
import Derived.Test.YtmemdhmjhckmaaaDoorZ18
namespace Go.Proofs.YtmemdhmjhckmaaaDoor
open Go.RowKit
set_option maxRecDepth 100000

/-- All cells between are blanks. -/
def blanksN (L : List Cl) (i : Nat) : Nat → List Cl
  | 0 => L
  | k + 1 => (blanksN L i k).set (i + k) blankC
theorem blanksN_len (L : List Cl) (i : Nat) : ∀ k, (blanksN L i k).length = L.length
  | 0 => rfl
  | k + 1 => by rw [blanksN, List.length_set, blanksN_len L i k]
theorem blanksN_get (L : List Cl) (i j : Nat) : ∀ k, i + k ≤ L.length → (blanksN L i k)[j]? = if i ≤ j ∧ j < i + k then some blankC else L[j]?
  | 0, _ => by rw [blanksN, if_neg (by omega)]
  | k + 1, h => by
    rw [blanksN, List.getElem?_set]
    split
    · rename_i e
      rw [if_pos (by rw [blanksN_len]; omega), if_pos (by omega)]
    · rename_i e
      rw [blanksN_get L i j k (by omega)]
      by_cases c : i ≤ j ∧ j < i + k
      · rw [if_pos c, if_pos (by omega)]
      · rw [if_neg c, if_neg (by omega)]
theorem wipe_get {L : List Cl} {i : Nat} {x : Cl} (hx : L[i]? = some x) (h0 : x.w = 0 → 1 ≤ i) (j : Nat) :
    (wipeL L i)[j]? = if j = i then some blankC else if x.w = 2 ∧ j = i + 1 ∧ j < L.length then some blankC else if x.w = 0 ∧ j + 1 = i then some blankC else L[j]? := by
  have hi := (List.getElem?_eq_some_iff.1 hx).1
  unfold wipeL
  rw [show L.getD i blankC = x by rw [List.getD_eq_getElem?_getD, hx]; rfl]
  by_cases h2 : x.w = 2
  · rw [if_pos h2, List.getElem?_set]
    split
    · rename_i e; rw [if_pos (by rw [List.length_set]; exact hi), if_pos e.symm]
    · rename_i e
      rw [List.getElem?_set, if_neg (show ¬ j = i from fun q => e q.symm)]
      split
      · rename_i e2
        split
        · rename_i hl; rw [if_pos ⟨h2, e2.symm, by omega⟩]
        · rename_i hl
          rw [if_neg (by omega), if_neg (by omega), List.getElem?_eq_none (by omega)]
      · rename_i e2
        rw [if_neg (by omega), if_neg (by omega)]
  · rw [if_neg h2]
    by_cases hz : x.w = 0
    · rw [if_pos hz, List.getElem?_set]
      have := h0 hz
      split
      · rename_i e; rw [if_pos (by rw [List.length_set]; exact hi), if_pos e.symm]
      · rename_i e
        rw [List.getElem?_set, if_neg (show ¬ j = i from fun q => e q.symm), if_neg (show ¬ (x.w = 2 ∧ j = i + 1 ∧ j < L.length) by omega)]
        split
        · rename_i e2
          rw [if_pos (show i - 1 < L.length by omega), if_pos ⟨hz, by omega⟩]
        · rename_i e2
          rw [if_neg (by omega)]
    · rw [if_neg hz, List.getElem?_set]
      split
      · rename_i e
        rw [if_pos e.symm]
      · rename_i e
        rw [if_neg (show ¬ j = i from fun q => e q.symm), if_neg (show ¬ (x.w = 2 ∧ j = i + 1 ∧ j < L.length) by omega), if_neg (show ¬ (x.w = 0 ∧ j + 1 = i) by omega)]
/-- Behind each wide half stands its other one. -/
def okH (L : List Cl) : Prop := ∀ (i : Nat) (x y : Cl), L[i]? = some x → L[i + 1]? = some y → x.w = 2 → y.w = 0
theorem okH_valid {L : List Cl} {R C : Nat} (hL : L.length = R * C) (hv : validL L R C = true) : okH L := by
  intro i x y hx hy h2
  have hi := (List.getElem?_eq_some_iff.1 hx).1
  have hC : 0 < C := Nat.pos_of_ne_zero (fun e => by rw [hL, e] at hi; simp at hi)
  have h := (valid_cells L R C hC hL).1 hv i _ hx
  unfold okAt at h
  rw [cell_2 h2] at h
  split at h
  · simp at h
  · rw [hy] at h
    simp only [Option.any_some, Bool.and_eq_true, decide_eq_true_eq] at h
    exact h.2
/-- What wiping one behind the other leaves. -/
theorem wipeN_get {L : List Cl} (hA : allW L) (hH : okH L) {i : Nat} {x : Cl} (hx : L[i]? = some x) : ∀ (k : Nat) {y : Cl}, L[i + k]? = some y → ∀ j,
    (wipeN L i (k + 1))[j]? = if i ≤ j ∧ j < i + (k + 1) then some blankC else if x.w = 0 ∧ j + 1 = i then some blankC else if y.w = 2 ∧ j = i + k + 1 ∧ j < L.length then some blankC else L[j]?
  | 0, y, hy, j => by
    rw [Nat.add_zero] at hy
    rw [hx] at hy
    injection hy with hy
    subst hy
    obtain ⟨x', hx', -, h0⟩ := hA i (List.getElem?_eq_some_iff.1 hx).1
    rw [hx] at hx'; injection hx' with hx'; subst hx'
    show (wipeL L (i + 0))[j]? = _
    rw [Nat.add_zero, wipe_get hx h0]
    by_cases c1 : j = i
    · rw [if_pos c1, if_pos (show i ≤ j ∧ j < i + (0 + 1) by omega)]
    · rw [if_neg c1, if_neg (show ¬ (i ≤ j ∧ j < i + (0 + 1)) by omega)]
      by_cases c2 : x.w = 2 ∧ j = i + 1 ∧ j < L.length
      · rw [if_pos c2, if_neg (show ¬ (x.w = 0 ∧ j + 1 = i) by omega), if_pos (show x.w = 2 ∧ j = i + 0 + 1 ∧ j < L.length by omega)]
      · rw [if_neg c2]
        by_cases c3 : x.w = 0 ∧ j + 1 = i
        · rw [if_pos c3, if_pos c3]
        · rw [if_neg c3, if_neg c3, if_neg (show ¬ (x.w = 2 ∧ j = i + 0 + 1 ∧ j < L.length) by omega)]
  | k + 1, y, hy, j => by
    have hlt := (List.getElem?_eq_some_iff.1 hy).1
    obtain ⟨v, hv⟩ : ∃ v, L[i + k]? = some v := ⟨_, List.getElem?_eq_getElem (by omega)⟩
    have ih := wipeN_get hA hH hx k hv
    have hyv : v.w = 2 → y.w = 0 := hH (i + k) v y hv hy
    obtain ⟨z, hz, hz2⟩ : ∃ z, (wipeN L i (k + 1))[i + (k + 1)]? = some z ∧ ((v.w = 2 ∧ z = blankC) ∨ (v.w ≠ 2 ∧ z = y)) := by
      have := ih (i + (k + 1))
      rw [if_neg (by omega), if_neg (by omega)] at this
      by_cases c : v.w = 2
      · rw [if_pos ⟨c, by omega, hlt⟩] at this
        exact ⟨_, this, .inl ⟨c, rfl⟩⟩
      · rw [if_neg (fun q => c q.1), hy] at this
        exact ⟨_, this, .inr ⟨c, rfl⟩⟩
    show (wipeL (wipeN L i (k + 1)) (i + (k + 1)))[j]? = _
    have b1 : blankC.w = 1 := rfl
    rw [wipe_get hz (fun _ => by omega), wipeN_len]
    by_cases c1 : j = i + (k + 1)
    · rw [if_pos c1, if_pos (show i ≤ j ∧ j < i + (k + 1 + 1) by omega)]
    · rw [if_neg c1]
      by_cases c2 : z.w = 2 ∧ j = i + (k + 1) + 1 ∧ j < L.length
      · have hy2 : y.w = 2 := by
          rcases hz2 with ⟨q, rfl⟩ | ⟨q, rfl⟩
          · rw [b1] at c2; omega
          · exact c2.1
        rw [if_pos c2, if_neg (show ¬ (i ≤ j ∧ j < i + (k + 1 + 1)) by omega), if_neg (show ¬ (x.w = 0 ∧ j + 1 = i) by omega), if_pos (show y.w = 2 ∧ j = i + (k + 1) + 1 ∧ j < L.length from ⟨hy2, c2.2⟩)]
      · rw [if_neg c2]
        by_cases c3 : z.w = 0 ∧ j + 1 = i + (k + 1)
        · rw [if_pos c3, if_pos (show i ≤ j ∧ j < i + (k + 1 + 1) by omega)]
        · rw [if_neg c3, ih j]
          by_cases c4 : i ≤ j ∧ j < i + (k + 1)
          · rw [if_pos c4, if_pos (show i ≤ j ∧ j < i + (k + 1 + 1) by omega)]
          · rw [if_neg c4, if_neg (show ¬ (i ≤ j ∧ j < i + (k + 1 + 1)) by omega)]
            by_cases c5 : x.w = 0 ∧ j + 1 = i
            · rw [if_pos c5, if_pos c5]
            · rw [if_neg c5, if_neg c5, if_neg (show ¬ (v.w = 2 ∧ j = i + k + 1 ∧ j < L.length) by omega), if_neg]
              rintro ⟨q1, q2, q3⟩
              rcases hz2 with ⟨q, rfl⟩ | ⟨q, rfl⟩
              · have := hyv q; omega
              · exact c2 ⟨q1, q2, q3⟩
/-- The document's way comes to the same. -/
theorem erase_same {L : List Cl} (hA : allW L) (hH : okH L) (i k : Nat) (h : i + (k + 1) ≤ L.length) : blanksN (wipeL (wipeL L i) (i + k)) i (k + 1) = wipeN L i (k + 1) := by
  obtain ⟨x, hx⟩ : ∃ x, L[i]? = some x := ⟨_, List.getElem?_eq_getElem (by omega)⟩
  obtain ⟨y, hy⟩ : ∃ y, L[i + k]? = some y := ⟨_, List.getElem?_eq_getElem (by omega)⟩
  obtain ⟨x', hx', -, h0⟩ := hA i (by omega)
  rw [hx] at hx'; injection hx' with hx'; subst hx'
  apply List.ext_getElem?
  intro j
  rw [blanksN_get _ _ _ _ (by rw [wipe_len, wipe_len]; exact h), wipeN_get hA hH hx k hy]
  by_cases c : i ≤ j ∧ j < i + (k + 1)
  · rw [if_pos c, if_pos c]
  rw [if_neg c, if_neg c]
  have b1 : blankC.w = 1 := rfl
  cases k with
  | zero =>
    rw [Nat.add_zero] at hy
    rw [hx] at hy; injection hy with hy; subst hy
    have hz : (wipeL L i)[i]? = some blankC := by rw [wipe_get hx h0, if_pos rfl]
    rw [Nat.add_zero, wipe_get hz (fun q => by rw [b1] at q; omega), wipe_len, if_neg (show ¬ j = i by omega), if_neg (show ¬ (blankC.w = 2 ∧ j = i + 1 ∧ j < L.length) by omega), if_neg (show ¬ (blankC.w = 0 ∧ j + 1 = i) by omega), wipe_get hx h0, if_neg (show ¬ j = i by omega)]
    by_cases c2 : x.w = 2 ∧ j = i + 1 ∧ j < L.length
    · rw [if_pos c2, if_neg (show ¬ (x.w = 0 ∧ j + 1 = i) by omega), if_pos c2]
    · rw [if_neg c2]
      by_cases c3 : x.w = 0 ∧ j + 1 = i
      · rw [if_pos c3, if_pos c3]
      · rw [if_neg c3, if_neg c3, if_neg c2]
  | succ k =>
    have hlt : i + (k + 1) < L.length := by omega
    obtain ⟨z, hz, hz2⟩ : ∃ z, (wipeL L i)[i + (k + 1)]? = some z ∧ ((x.w = 2 ∧ k = 0 ∧ z = blankC ∧ y.w = 0) ∨ z = y) := by
      have := wipe_get hx h0 (i + (k + 1))
      rw [if_neg (by omega)] at this
      by_cases c2 : x.w = 2 ∧ i + (k + 1) = i + 1 ∧ i + (k + 1) < L.length
      · rw [if_pos c2] at this
        have hk : k = 0 := by omega
        subst hk
        exact ⟨_, this, .inl ⟨c2.1, rfl, rfl, hH i x y hx hy c2.1⟩⟩
      · rw [if_neg c2, if_neg (show ¬ (x.w = 0 ∧ i + (k + 1) + 1 = i) by omega), hy] at this
        exact ⟨_, this, .inr rfl⟩
    rw [wipe_get hz (fun _ => by omega), wipe_len, if_neg (show ¬ j = i + (k + 1) by omega)]
    by_cases c2 : z.w = 2 ∧ j = i + (k + 1) + 1 ∧ j < L.length
    · have hy2 : y.w = 2 := by
        rcases hz2 with ⟨-, -, rfl, -⟩ | rfl
        · rw [b1] at c2; omega
        · exact c2.1
      rw [if_pos c2, if_neg (show ¬ (x.w = 0 ∧ j + 1 = i) by omega), if_pos (show y.w = 2 ∧ j = i + (k + 1) + 1 ∧ j < L.length from ⟨hy2, c2.2⟩)]
    · rw [if_neg c2, if_neg (show ¬ (z.w = 0 ∧ j + 1 = i + (k + 1)) by omega), wipe_get hx h0, if_neg (show ¬ j = i by omega), if_neg (show ¬ (x.w = 2 ∧ j = i + 1 ∧ j < L.length) by omega)]
      by_cases c3 : x.w = 0 ∧ j + 1 = i
      · rw [if_pos c3, if_pos c3]
      · rw [if_neg c3, if_neg c3, if_neg]
        rintro ⟨q1, q2, q3⟩
        rcases hz2 with ⟨-, -, rfl, q⟩ | rfl
        · omega
        · exact c2 ⟨q1, q2, q3⟩
end Go.Proofs.YtmemdhmjhckmaaaDoor
