/- Places where runes stand, by their numbers. Plain facts, no walk. -/
import Derived.Test.YtkmcfcpockpadaaDoorLast
import Derived.Test.YtkmcfcpockpadaaDoorLf
namespace Go.Proofs.YtkmcfcpockpadaaDoor

/-- The place of the rune of number k; the text's end behind the last one. -/
def plc (s : ByteArray) (k : Nat) : Nat := (starts s)[k]?.getD s.size
def nR (s : ByteArray) : Nat := (starts s).length
theorem plc_end {s : ByteArray} {k : Nat} (h : nR s ≤ k) : plc s k = s.size := by
  unfold plc; rw [List.getElem?_eq_none h]; rfl
theorem plc_mem {s : ByteArray} {k : Nat} (h : k < nR s) : plc s k ∈ starts s := by
  unfold plc; rw [List.getElem?_eq_getElem h]; exact List.getElem_mem h
theorem plc_lt {s : ByteArray} {k : Nat} (h : k < nR s) : plc s k < s.size := (starts_lt s _ _ _ (plc_mem h)).2
theorem plc_le (s : ByteArray) (k : Nat) : plc s k ≤ s.size := by
  by_cases h : k < nR s
  · exact Nat.le_of_lt (plc_lt h)
  · rw [plc_end (by omega)]; exact Nat.le_refl _
theorem plc_of_getD {s : ByteArray} {k : Nat} (h : k < nR s) : (starts s)[k]?.getD 0 = plc s k := by
  unfold plc; rw [List.getElem?_eq_getElem h]; rfl
theorem starts_nil {s : ByteArray} (h : nR s = 0) : s.size = 0 := by
  by_cases h0 : 0 < s.size
  · have := (lastS_spec h0).2.2.1
    unfold nR at h; omega
  · omega
theorem plc_next {s : ByteArray} {k : Nat} (h : k < nR s) : plc s (k + 1) = plc s k + (Utf8.decode s (plc s k)).2 := by
  by_cases h1 : k + 1 < nR s
  · have h2 := starts_next s s.size 0 k h1
    rw [show startsFrom s s.size 0 = starts s from rfl, plc_of_getD h1, plc_of_getD h] at h2
    exact h2
  · have hs : 0 < s.size := by have := plc_lt h; omega
    have hl := lastS_spec hs
    have he : lastS s = plc s k := by
      unfold lastS
      rw [show (starts s).length - 1 = k by unfold nR at h h1; omega, plc_of_getD h]
    rw [plc_end (by omega), ← he, hl.2.1]
theorem plc_zero (s : ByteArray) : plc s 0 = 0 := by
  by_cases h : 0 < s.size
  · have h1 : 0 < nR s := by have := (lastS_spec h).2.2.1; unfold nR; omega
    rw [← plc_of_getD h1]; exact starts_head h
  · have := plc_le s 0; omega
theorem plc_succ_lt {s : ByteArray} {k : Nat} (h : k < nR s) : plc s k < plc s (k + 1) := by
  have := plc_next h
  have := dec_in s _ (plc_lt h)
  omega
theorem plc_mono {s : ByteArray} {j k : Nat} (h : j < k) (hk : k ≤ nR s) : plc s j < plc s k := by
  induction h with
  | refl => exact plc_succ_lt (by omega)
  | @step m h ih => have h1 := ih (by omega); have h2 : plc s m < plc s (m + 1) := plc_succ_lt (by omega); exact Nat.lt_trans h1 h2
theorem plc_inj {s : ByteArray} {j k : Nat} (hj : j ≤ nR s) (hk : k ≤ nR s) (h : plc s j = plc s k) : j = k := by
  rcases Nat.lt_trichotomy j k with h1 | h1 | h1
  · have := plc_mono h1 hk; omega
  · exact h1
  · have := plc_mono h1 hj; omega
theorem plc_lt_iff {s : ByteArray} {j k : Nat} (hj : j ≤ nR s) (hk : k ≤ nR s) : plc s j < plc s k ↔ j < k := by
  constructor
  · intro h
    rcases Nat.lt_trichotomy j k with h1 | h1 | h1
    · exact h1
    · subst h1; omega
    · have := plc_mono h1 hj; omega
  · exact fun h => plc_mono h hk
theorem nR_le (s : ByteArray) : nR s ≤ s.size := starts_len s
theorem mem_plc {s : ByteArray} {p : Nat} (h : p ∈ starts s) : ∃ k, k < nR s ∧ plc s k = p := by
  obtain ⟨k, hk, e⟩ := List.getElem_of_mem h
  exact ⟨k, hk, by unfold plc; rw [List.getElem?_eq_getElem hk]; exact e⟩
/-- An ASCII byte is a rune's place. -/
theorem lf_mem {s : ByteArray} {p : Nat} (hp : p < s.size) (h : lf s p = true) : p ∈ starts s := by
  unfold lf at h
  exact start_mem hp (by simp at h; omega) s.size 0 (by omega) (by omega)
theorem lf_step {s : ByteArray} {p : Nat} (h : lf s p = true) : (Utf8.decode s p).2 = 1 := by
  unfold lf at h
  rw [(dec_facts s p).2.2.2.1 (by simp at h; omega)]
/-- Is it a place? -/
def isPlc (s : ByteArray) (p : Nat) : Prop := ∃ k, k ≤ nR s ∧ plc s k = p
theorem isPlc_behind {s : ByteArray} {p : Nat} (hp : p < s.size) (h : lf s p = true) : isPlc s (p + 1) := by
  obtain ⟨k, hk, e⟩ := mem_plc (lf_mem hp h)
  exact ⟨k + 1, hk, by rw [plc_next hk, e, lf_step h]⟩
theorem isPlc_at {s : ByteArray} {p : Nat} (hp : p < s.size) (h : lf s p = true) : isPlc s p := by
  obtain ⟨k, hk, e⟩ := mem_plc (lf_mem hp h)
  exact ⟨k, Nat.le_of_lt hk, e⟩
theorem isPlc_st (s : ByteArray) (a : Nat) (ha : a ≤ s.size) : isPlc s (stP s a) := by
  rcases (stP_spec s a).1 with h | h
  · exact ⟨0, Nat.zero_le _, by rw [plc_zero, h]⟩
  · have h1 := stP_le s a
    by_cases h0 : stP s a = 0
    · exact ⟨0, Nat.zero_le _, by rw [plc_zero, h0]⟩
    · have := isPlc_behind (s := s) (p := stP s a - 1) (by omega) h
      rwa [show stP s a - 1 + 1 = stP s a by omega] at this
theorem isPlc_en (s : ByteArray) (a : Nat) (ha : a ≤ s.size) : isPlc s (enP s a) := by
  obtain ⟨h1, h2, h3, h4⟩ := enP_spec s a ha
  by_cases h : enP s a = s.size
  · exact ⟨nR s, Nat.le_refl _, by rw [plc_end (Nat.le_refl _), h]⟩
  · exact isPlc_at (by omega) (by rcases h4 with h4 | h4; exact absurd h4 h; exact h4)

/-- How many runes stand ahead of a place. -/
def rnN (s : ByteArray) (a : Int) : Nat := ((starts s).filter fun (k : Nat) => decide ((k : Int) < a)).length
theorem starts_sorted (s : ByteArray) : ∀ f pos, (startsFrom s f pos).Pairwise (· < ·)
  | 0, _ => List.Pairwise.nil
  | f + 1, pos => by
    by_cases h : pos < s.size
    · rw [startsFrom_go h, List.pairwise_cons]
      refine ⟨fun k hk => ?_, starts_sorted s f _⟩
      have := starts_lt s f _ k hk
      have := dec_in s pos h
      omega
    · rw [startsFrom_end h]; exact List.Pairwise.nil
theorem rnN_le (s : ByteArray) (a : Int) : rnN s a ≤ nR s := List.length_filter_le _ _
theorem filter_sorted : ∀ (l : List Nat) (a : Int) (k : Nat), l.Pairwise (· < ·) → k ≤ l.length → (∀ (j x : Nat), l[j]? = some x → (j < k ↔ (x : Int) < a)) → (l.filter fun (x : Nat) => decide ((x : Int) < a)).length = k
  | [], a, k, _, hk, _ => by simp at hk; simp [hk]
  | b :: l, a, k, hp, hk, h => by
    rw [List.pairwise_cons] at hp
    have h0 := h 0 b rfl
    cases k with
    | zero =>
      rw [List.filter_eq_nil_iff.2]
      · rfl
      · intro x hx
        have h1 : ¬ (b : Int) < a := fun e => by have := h0.2 e; omega
        rcases List.mem_cons.1 hx with rfl | hx
        · simpa using h1
        · have := hp.1 x hx; simp; omega
    | succ k =>
      rw [List.filter_cons, if_pos (by simpa using h0.1 (by omega)), List.length_cons, filter_sorted l a k hp.2 (by simpa using hk)]
      intro j x hx
      have := h (j + 1) x (by simpa using hx)
      omega
theorem rnN_eq {s : ByteArray} {a : Int} {k : Nat} (hk : k ≤ nR s) (h1 : ∀ j, j < k → (plc s j : Int) < a) (h2 : k < nR s → a ≤ (plc s k : Int)) : rnN s a = k := by
  refine filter_sorted (starts s) a k (starts_sorted s _ _) hk fun j x hx => ?_
  have hj : j < nR s := (List.getElem?_eq_some_iff.1 hx).1
  have e : plc s j = x := by unfold plc; rw [hx]; rfl
  constructor
  · intro h; rw [← e]; exact h1 j h
  · intro h
    rcases Nat.lt_or_ge j k with h3 | h3
    · exact h3
    · have h4 := h2 (by omega)
      rcases Nat.lt_or_ge k j with h5 | h5
      · have := plc_mono h5 (Nat.le_of_lt hj); omega
      · obtain rfl : j = k := by omega
        omega
theorem rnN_plc {s : ByteArray} {k : Nat} (hk : k ≤ nR s) : rnN s (plc s k) = k :=
  rnN_eq hk (fun j hj => by have := plc_mono hj hk; omega) (fun _ => Int.le_refl _)
theorem rnN_zero {s : ByteArray} {a : Int} (h : a ≤ 0) : rnN s a = 0 := rnN_eq (Nat.zero_le _) (fun j hj => by omega) (fun _ => by omega)
theorem rnN_all {s : ByteArray} {a : Int} (h : (s.size : Int) ≤ a) : rnN s a = nR s := rnN_eq (Nat.le_refl _) (fun j hj => by have := plc_lt hj; omega) (fun h => by omega)
/-- The place behind so many runes. -/
def plcI (s : ByteArray) (r : Int) : Nat := if r < 1 then 0 else plc s (min r.toNat (nR s))
theorem plcI_nat (s : ByteArray) (k : Nat) : plcI s k = plc s (min k (nR s)) := by
  unfold plcI
  by_cases h : k = 0
  · subst h; rw [if_pos (by omega), Nat.zero_min, plc_zero]
  · rw [if_neg (by omega)]; simp
theorem plcI_of {s : ByteArray} {k : Nat} (h : k ≤ nR s) : plcI s k = plc s k := by rw [plcI_nat, Nat.min_eq_left h]
end Go.Proofs.YtkmcfcpockpadaaDoor
