/- Motions by runes' numbers. Plain facts, no walk. -/
import Derived.Test.YtkmcfcpockpadaaDoorPlc
import Derived.Test.YtkmcfcpockpadaaDoorClass
namespace Go.Proofs.YtkmcfcpockpadaaDoor

/-- Of what class the rune of number k is; -1: there is none. -/
def cl (s : ByteArray) (k : Nat) : Int := if k < nR s then cls ((Utf8.decode s (plc s k)).1 : Int) else -1
theorem cls_range (r : Int) : 0 ≤ cls r ∧ cls r ≤ 2 := by unfold cls; (repeat' split) <;> omega
theorem cl_in {s : ByteArray} {k : Nat} (h : k < nR s) : 0 ≤ cl s k ∧ cl s k ≤ 2 := by unfold cl; rw [if_pos h]; exact cls_range _
theorem cl_out {s : ByteArray} {k : Nat} (h : nR s ≤ k) : cl s k = -1 := by unfold cl; rw [if_neg (by omega)]
def clB (s : ByteArray) (k : Nat) : Int := if k = 0 then -1 else cl s (k - 1)
/-- As long as it is so, on. -/
def skF (c : Nat → Int) (p : Int → Bool) : Nat → Nat → Nat
  | 0, k => k
  | f + 1, k => if p (c k) then skF c p f (k + 1) else k
def skK (s : ByteArray) (p : Int → Bool) (k : Nat) : Nat := skF (cl s) p (nR s - k) k
theorem skF_spec (c : Nat → Int) (p : Int → Bool) (n : Nat) : ∀ f k, k + f = n → k ≤ skF c p f k ∧ skF c p f k ≤ n ∧ (∀ j, k ≤ j → j < skF c p f k → p (c j) = true) ∧ (skF c p f k < n → p (c (skF c p f k)) = false)
  | 0, k, h => ⟨Nat.le_refl _, by simp [skF]; omega, fun j h1 h2 => by simp [skF] at h2; omega, fun h1 => by simp [skF] at h1; omega⟩
  | f + 1, k, h => by
    unfold skF
    by_cases e : p (c k) = true
    · rw [if_pos e]
      obtain ⟨h1, h2, h3, h4⟩ := skF_spec c p n f (k + 1) (by omega)
      exact ⟨by omega, h2, fun j h5 h6 => by by_cases e2 : j = k; (subst e2; exact e); exact h3 j (by omega) h6, h4⟩
    · rw [if_neg e]
      exact ⟨Nat.le_refl _, by omega, fun j h1 h2 => by omega, fun _ => by simpa using e⟩
theorem skK_spec (s : ByteArray) (p : Int → Bool) (k : Nat) (h : k ≤ nR s) : k ≤ skK s p k ∧ skK s p k ≤ nR s ∧ (∀ j, k ≤ j → j < skK s p k → p (cl s j) = true) ∧ (skK s p k < nR s → p (cl s (skK s p k)) = false) := skF_spec _ _ _ _ _ (by omega)
theorem skK_go {s : ByteArray} {p : Int → Bool} {k : Nat} (h : k < nR s) (hp : p (cl s k) = true) : skK s p (k + 1) = skK s p k := by
  unfold skK
  obtain ⟨f, e⟩ : ∃ f, nR s - k = f + 1 := ⟨nR s - k - 1, by omega⟩
  rw [e, show nR s - (k + 1) = f by omega]
  show _ = if p (cl s k) then _ else _
  rw [if_pos hp]
theorem skK_stop {s : ByteArray} {p : Int → Bool} {k : Nat} (hp : p (cl s k) = false) : skK s p k = k := by
  unfold skK
  cases nR s - k with
  | zero => rfl
  | succ f => show (if p (cl s k) then _ else _) = _; rw [hp]; rfl
theorem skK_end {s : ByteArray} {p : Int → Bool} {k : Nat} (h : nR s ≤ k) : skK s p k = k := by
  unfold skK
  rw [show nR s - k = 0 by omega]; rfl
/-- As long as what stands ahead is so, back. -/
def bkK (s : ByteArray) (p : Int → Bool) : Nat → Nat
  | 0 => 0
  | k + 1 => if p (cl s k) then bkK s p k else k + 1
theorem bkK_le (s : ByteArray) (p : Int → Bool) : ∀ k, bkK s p k ≤ k
  | 0 => Nat.le_refl _
  | k + 1 => by unfold bkK; have := bkK_le s p k; split <;> omega
theorem bkK_go {s : ByteArray} {p : Int → Bool} {k : Nat} (hp : p (cl s k) = true) : bkK s p (k + 1) = bkK s p k := by show (if _ then _ else _) = _; rw [if_pos hp]
theorem bkK_stop {s : ByteArray} {p : Int → Bool} {k : Nat} (hp : p (cl s k) = false) : bkK s p (k + 1) = k + 1 := by show (if _ then _ else _) = _; rw [hp]; rfl

def isBlank (c : Int) : Bool := c == 0
def isWord (c : Int) : Bool := c == 1
def isBetween (c : Int) : Bool := c != 1
def isOther (a : Int) (c : Int) : Bool := c == a && decide (0 < c)

def stK (s : ByteArray) (k : Nat) : Nat := rnN s (stP s (plc s k))
def enK (s : ByteArray) (k : Nat) : Nat := rnN s (enP s (plc s k))
theorem plc_stK (s : ByteArray) (k : Nat) : plc s (stK s k) = stP s (plc s k) := by
  obtain ⟨j, hj, e⟩ := isPlc_st s (plc s k) (plc_le s k)
  unfold stK; rw [← e, rnN_plc hj]
theorem plc_enK (s : ByteArray) (k : Nat) : plc s (enK s k) = enP s (plc s k) := by
  obtain ⟨j, hj, e⟩ := isPlc_en s (plc s k) (plc_le s k)
  unfold enK; rw [← e, rnN_plc hj]
theorem stK_n (s : ByteArray) (k : Nat) : stK s k ≤ nR s := rnN_le _ _
theorem enK_n (s : ByteArray) (k : Nat) : enK s k ≤ nR s := rnN_le _ _
theorem stK_le {s : ByteArray} {k : Nat} (h : k ≤ nR s) : stK s k ≤ k := by
  rcases Nat.lt_or_ge k (stK s k) with h1 | h1
  · have h2 := plc_mono h1 (stK_n s k)
    rw [plc_stK] at h2
    have := stP_le s (plc s k); omega
  · exact h1
theorem enK_ge {s : ByteArray} {k : Nat} (h : k ≤ nR s) : k ≤ enK s k := by
  rcases Nat.lt_or_ge (enK s k) k with h1 | h1
  · have h2 := plc_mono h1 h
    rw [plc_enK] at h2
    have := (enP_spec s (plc s k) (plc_le s k)).1; omega
  · exact h1
def upK (s : ByteArray) (k : Nat) : Nat := if stK s k = 0 then k else min (stK s (stK s k - 1) + k - stK s k) (stK s k - 1)
def downK (s : ByteArray) (k : Nat) : Nat := if enK s k = nR s then k else min (enK s k + 1 + k - stK s k) (enK s (enK s k + 1))
def tailK (s : ByteArray) (k : Nat) : Nat :=
  if skK s isBlank (min (k + 1) (nR s)) < skK s (isOther (cl s (skK s isBlank (min (k + 1) (nR s))))) (skK s isBlank (min (k + 1) (nR s))) then skK s (isOther (cl s (skK s isBlank (min (k + 1) (nR s))))) (skK s isBlank (min (k + 1) (nR s))) - 1 else skK s isBlank (min (k + 1) (nR s))
/-- A motion, once. -/
def onceK (s : ByteArray) (which : Int) (k : Nat) : Nat :=
  if which = 0 then k - 1 else if which = 1 then min (k + 1) (nR s) else if which = 2 then stK s k else if which = 3 then enK s k
  else if which = 4 then upK s k else if which = 5 then downK s k else if which = 6 then skK s isWord (skK s isBetween k) else if which = 7 then bkK s isWord (bkK s isBetween k)
  else if which = 8 then skK s isBlank (skK s (isOther (cl s k)) k) else if which = 9 then bkK s (isOther (clB s (bkK s isBlank k))) (bkK s isBlank k) else if which = 10 then tailK s k
  else if which = 11 then min (skK s isBlank (stK s k)) (enK s k) else if which = 12 then 0 else if which = 13 then nR s else k
theorem upK_le {s : ByteArray} {k : Nat} (h : k ≤ nR s) : upK s k ≤ k := by
  unfold upK; split
  · exact Nat.le_refl _
  · have := stK_le h; omega
theorem downK_n {s : ByteArray} {k : Nat} (h : k ≤ nR s) : downK s k ≤ nR s := by
  unfold downK; split
  · exact h
  · have := enK_n s (enK s k + 1); omega
theorem downK_ge {s : ByteArray} {k : Nat} (h : k ≤ nR s) : k ≤ downK s k := by
  unfold downK; split
  · exact Nat.le_refl _
  · rename_i h0
    have h1 := stK_le h
    have h2 := enK_ge h
    have h3 := enK_n s k
    have h4 := enK_ge (s := s) (k := enK s k + 1) (by omega)
    omega
theorem tailK_n {s : ByteArray} {k : Nat} : tailK s k ≤ nR s ∧ min (k + 1) (nR s) ≤ tailK s k := by
  have h1 := skK_spec s isBlank (min (k + 1) (nR s)) (by omega)
  unfold tailK
  generalize skK s isBlank (min (k + 1) (nR s)) = a at *
  have h2 := skK_spec s (isOther (cl s a)) a h1.2.1
  split <;> omega
theorem onceK_n {s : ByteArray} {which : Int} {k : Nat} (h : k ≤ nR s) : onceK s which k ≤ nR s := by
  unfold onceK
  by_cases h0 : which = 0
  · rw [if_pos h0]; omega
  rw [if_neg h0]
  by_cases h1 : which = 1
  · rw [if_pos h1]; omega
  rw [if_neg h1]
  by_cases h2 : which = 2
  · rw [if_pos h2]; exact stK_n s k
  rw [if_neg h2]
  by_cases h3 : which = 3
  · rw [if_pos h3]; exact enK_n s k
  rw [if_neg h3]
  by_cases h4 : which = 4
  · rw [if_pos h4]; have := upK_le h; omega
  rw [if_neg h4]
  by_cases h5 : which = 5
  · rw [if_pos h5]; exact downK_n h
  rw [if_neg h5]
  by_cases h6 : which = 6
  · rw [if_pos h6]; exact (skK_spec s _ _ (skK_spec s _ _ h).2.1).2.1
  rw [if_neg h6]
  by_cases h7 : which = 7
  · rw [if_pos h7]; have := bkK_le s isWord (bkK s isBetween k); have := bkK_le s isBetween k; omega
  rw [if_neg h7]
  by_cases h8 : which = 8
  · rw [if_pos h8]; exact (skK_spec s _ _ (skK_spec s _ _ h).2.1).2.1
  rw [if_neg h8]
  by_cases h9 : which = 9
  · rw [if_pos h9]; have := bkK_le s (isOther (clB s (bkK s isBlank k))) (bkK s isBlank k); have := bkK_le s isBlank k; omega
  rw [if_neg h9]
  by_cases h10 : which = 10
  · rw [if_pos h10]; exact tailK_n.1
  rw [if_neg h10]
  by_cases h11 : which = 11
  · rw [if_pos h11]; have := enK_n s k; omega
  rw [if_neg h11]
  by_cases h12 : which = 12
  · rw [if_pos h12]; omega
  rw [if_neg h12]
  by_cases h13 : which = 13
  · rw [if_pos h13]; omega
  rw [if_neg h13]
  exact h

/-- The line above, as the program reckons it. -/
theorem up_prog {s : ByteArray} {k : Nat} (h : k ≤ nR s) (h0 : stK s k ≠ 0) : 1 ≤ stP s (plc s k) ∧ plc s (stK s k - 1) = stP s (plc s k) - 1 ∧ min (plcI s ((rnN s (stP s (stP s (plc s k) - 1)) : Int) + (k - stK s k : Nat))) (enP s (stP s (stP s (plc s k) - 1))) = plc s (upK s k) := by
  have h1 := stP_le s (plc s k)
  have h2 := plc_le s k
  have h3 := plc_stK s k
  have h4 : 1 ≤ stP s (plc s k) := by
    have := plc_mono (s := s) (j := 0) (k := stK s k) (by omega) (stK_n s k)
    omega
  have h5 : lf s (stP s (plc s k) - 1) = true := by rcases (stP_spec s (plc s k)).1 with e | e; omega; exact e
  obtain ⟨j, hj, e⟩ := mem_plc (lf_mem (s := s) (p := stP s (plc s k) - 1) (by omega) h5)
  have h6 : stK s k = j + 1 := by
    refine plc_inj (stK_n s k) (by omega) ?_
    rw [h3, plc_next hj, e, lf_step h5]; omega
  have h7 : plc s (stK s k - 1) = stP s (plc s k) - 1 := by rw [h6, Nat.add_sub_cancel, e]
  refine ⟨h4, h7, ?_⟩
  have h8 : enP s (stP s (stP s (plc s k) - 1)) = stP s (plc s k) - 1 := by rw [en_st s _ (by omega), enP_hit s _ (by omega) h5]
  have h9 : rnN s (stP s (stP s (plc s k) - 1)) = stK s (stK s k - 1) := by unfold stK at h7 ⊢; rw [h7]
  rw [h8, h9, ← h7]
  have h10 := stK_le h
  have h11 := stK_n s k
  unfold upK
  rw [if_neg h0, show ((stK s (stK s k - 1) : Nat) : Int) + ((k - stK s k : Nat) : Int) = ((stK s (stK s k - 1) + k - stK s k : Nat) : Int) by omega, plcI_nat]
  generalize stK s (stK s k - 1) + k - stK s k = a
  rcases Nat.lt_or_ge a (stK s k - 1) with h12 | h12
  · have := plc_mono (s := s) (j := a) (k := stK s k - 1) h12 (by omega)
    rw [Nat.min_eq_left (show a ≤ nR s by omega), Nat.min_eq_left (show a ≤ stK s k - 1 by omega)]
    omega
  · rw [Nat.min_eq_right h12]
    rcases Nat.lt_or_ge (stK s k - 1) (min a (nR s)) with h13 | h13
    · have := plc_mono (s := s) (j := stK s k - 1) (k := min a (nR s)) h13 (by omega)
      omega
    · rw [show min a (nR s) = stK s k - 1 by omega]; omega
/-- The line below, as the program reckons it. -/
theorem down_prog {s : ByteArray} {k : Nat} (h : k ≤ nR s) (h0 : enK s k ≠ nR s) : enP s (plc s k) + 1 ≤ s.size ∧ min (plcI s ((rnN s (stP s (enP s (plc s k) + 1)) : Int) + (k - stK s k : Nat))) (enP s (stP s (enP s (plc s k) + 1))) = plc s (downK s k) := by
  obtain ⟨h1, h2, h3, h4⟩ := enP_spec s (plc s k) (plc_le s k)
  have h5 := plc_enK s k
  have h6 := enK_n s k
  have h7 : enP s (plc s k) < s.size := by rw [← h5]; exact plc_lt (by omega)
  have h8 : lf s (enP s (plc s k)) = true := by rcases h4 with e | e; omega; exact e
  have h9 : plc s (enK s k + 1) = enP s (plc s k) + 1 := by rw [plc_next (by omega), h5, lf_step h8]
  refine ⟨by omega, ?_⟩
  have h10 : stP s (enP s (plc s k) + 1) = enP s (plc s k) + 1 := by rw [stP_succ, if_pos h8]
  rw [h10, ← h9, rnN_plc (by omega)]
  have h11 := stK_le h
  have h12 := enK_n s (enK s k + 1)
  unfold downK
  rw [if_neg h0, show ((enK s k + 1 : Nat) : Int) + ((k - stK s k : Nat) : Int) = ((enK s k + 1 + k - stK s k : Nat) : Int) by omega, plcI_nat, ← plc_enK]
  generalize enK s k + 1 + k - stK s k = a
  generalize enK s (enK s k + 1) = b at *
  rcases Nat.lt_or_ge a b with h13 | h13
  · have := plc_mono (s := s) (j := a) (k := b) h13 h12
    rw [Nat.min_eq_left (show a ≤ nR s by omega), Nat.min_eq_left (show a ≤ b by omega)]
    omega
  · rw [Nat.min_eq_right h13]
    rcases Nat.lt_or_ge b (min a (nR s)) with h14 | h14
    · have := plc_mono (s := s) (j := b) (k := min a (nR s)) h14 (by omega)
      omega
    · rw [show min a (nR s) = b by omega]; omega
theorem min_plc {s : ByteArray} {a b : Nat} (ha : a ≤ nR s) (hb : b ≤ nR s) : min (plc s a) (plc s b) = plc s (min a b) := by
  rcases Nat.lt_trichotomy a b with h | h | h
  · have := plc_mono h hb
    rw [Nat.min_eq_left (show a ≤ b by omega)]; omega
  · subst h; simp
  · have := plc_mono h ha
    rw [Nat.min_eq_right (show b ≤ a by omega)]; omega

/-- Where a place is fixed to. -/
def fixK (s : ByteArray) (a : Int) : Nat := if (s.size : Int) ≤ a then nR s else rnN s (a + 1) - 1
theorem fixK_n (s : ByteArray) (a : Int) : fixK s a ≤ nR s := by unfold fixK; have := rnN_le s (a + 1); split <;> omega
theorem fixK_plc {s : ByteArray} {k : Nat} (h : k ≤ nR s) : fixK s (plc s k) = k := by
  unfold fixK
  by_cases hk : k < nR s
  · have h1 := plc_lt hk
    rw [if_neg (by omega), rnN_eq (k := k + 1) (by omega) (fun j hj => ?_) (fun h2 => ?_)]
    · rfl
    · rcases Nat.lt_or_ge j k with h3 | h3
      · have := plc_mono h3 h; omega
      · obtain rfl : j = k := by omega
        omega
    · have := plc_succ_lt hk; omega
  · rw [plc_end (by omega), if_pos (Int.le_refl _)]; omega
/-- So often. -/
def itK (s : ByteArray) (which : Int) : Nat → Nat → Nat
  | 0, k => k
  | m + 1, k => itK s which m (onceK s which k)
theorem itK_n {s : ByteArray} {which : Int} : ∀ m k, k ≤ nR s → itK s which m k ≤ nR s
  | 0, _, h => h
  | m + 1, k, h => itK_n m _ (onceK_n h)
theorem itK_fix {s : ByteArray} {which : Int} {k : Nat} (h : onceK s which k = k) : ∀ m, itK s which m k = k
  | 0 => rfl
  | m + 1 => by show itK s which m (onceK s which k) = k; rw [h]; exact itK_fix h m
theorem itK_snoc {s : ByteArray} {which : Int} : ∀ m k, itK s which (m + 1) k = onceK s which (itK s which m k)
  | 0, _ => rfl
  | m + 1, k => itK_snoc m (onceK s which k)
def oftenN (n : Int) : Nat := (min (max n 0) 1000).toNat
def toK (s : ByteArray) (a which n : Int) : Nat := itK s which (oftenN n) (fixK s a)
end Go.Proofs.YtkmcfcpockpadaaDoor
