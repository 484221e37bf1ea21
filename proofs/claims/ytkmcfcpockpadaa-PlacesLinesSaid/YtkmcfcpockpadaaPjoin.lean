/- Lines put together: where each begins and ends. Plain. -/
import Derived.Test.YtkmcfcpockpadaaLf
namespace Go.Proofs.Ytkmcfcpockpadaa

def strip (l : List UInt8) : List UInt8 := l.filter fun c => c != 10
theorem strip_no (l : List UInt8) : ∀ c ∈ strip l, c ≠ 10 := fun c h => by
  have := (List.mem_filter.1 h).2
  simpa using this
theorem strip_le (l : List UInt8) : (strip l).length ≤ l.length := List.length_filter_le _ _
theorem strip_snoc (l : List UInt8) (k : Nat) (h : k < l.length) : strip (l.take (k + 1)) = strip (l.take k) ++ if l[k] = 10 then [] else [l[k]] := by
  unfold strip
  rw [List.take_succ_eq_append_getElem h, List.filter_append]
  congr 1
  by_cases h9 : l[k] = 10 <;> simp [h9]
/-- The first i of n lines, put together. -/
def jS (f : Nat → List UInt8) (n : Nat) : Nat → List UInt8
  | 0 => []
  | i + 1 => jS f n i ++ f i ++ if i + 1 < n then [10] else []
def jA (f : Nat → List UInt8) : Nat → Nat
  | 0 => 0
  | i + 1 => jA f i + (f i).length + 1
theorem jS_succ (f : Nat → List UInt8) (n i : Nat) : jS f n (i + 1) = jS f n i ++ f i ++ if i + 1 < n then [10] else [] := rfl
theorem jA_succ (f : Nat → List UInt8) (i : Nat) : jA f (i + 1) = jA f i + (f i).length + 1 := rfl
theorem jS_len (f : Nat → List UInt8) (n : Nat) : ∀ i, i < n → (jS f n i).length = jA f i
  | 0, _ => rfl
  | i + 1, h => by
    rw [jS_succ, jA_succ, if_pos h, List.length_append, List.length_append, jS_len f n i (by omega)]; rfl
theorem jS_le (f : Nat → List UInt8) (n m : Nat) (hf : ∀ j, (f j).length ≤ m) : ∀ i, (jS f n i).length ≤ i * (m + 1)
  | 0 => by simp [jS]
  | i + 1 => by
    have h1 := jS_le f n m hf i
    have h2 := hf i
    rw [jS_succ, List.length_append, List.length_append, Nat.add_mul]
    split <;> simp <;> omega
theorem jA_le (f : Nat → List UInt8) (m : Nat) (hf : ∀ j, (f j).length ≤ m) : ∀ i, jA f i ≤ i * (m + 1)
  | 0 => by simp [jA]
  | i + 1 => by
    have h1 := jA_le f m hf i
    have h2 := hf i
    rw [jA_succ, Nat.add_mul]; omega
theorem jS_count (f : Nat → List UInt8) (n : Nat) (hf : ∀ j, ∀ c ∈ f j, c ≠ 10) : ∀ i, i < n → (jS f n i).count 10 = i
  | 0, _ => rfl
  | i + 1, h => by
    rw [jS_succ, if_pos h, List.count_append, List.count_append, jS_count f n hf i (by omega), List.count_eq_zero.2 (fun hm => hf i 10 hm rfl)]; rfl
theorem jS_full (f : Nat → List UInt8) (n : Nat) (hf : ∀ j, ∀ c ∈ f j, c ≠ 10) (hn : 0 < n) : (jS f n n).count 10 = n - 1 := by
  obtain ⟨m, rfl⟩ : ∃ m, n = m + 1 := ⟨n - 1, by omega⟩
  rw [jS_succ, if_neg (by omega), List.append_nil, List.count_append, jS_count f _ hf m (by omega), List.count_eq_zero.2 (fun hm => hf m 10 hm rfl)]
  rfl
theorem jS_last (f : Nat → List UInt8) (n i : Nat) (h : i < n) (h0 : 0 < i) : ∃ l, jS f n i = l ++ [10] := by
  obtain ⟨m, rfl⟩ : ∃ m, i = m + 1 := ⟨i - 1, by omega⟩
  exact ⟨jS f n m ++ f m, by rw [jS_succ, if_pos h]⟩
theorem jS_split0 (f : Nat → List UInt8) (n i : Nat) : ∀ k, ∃ C, jS f n (i + 1 + k) = jS f n i ++ f i ++ C ∧ (i + 1 < n → ∃ t, C = 10 :: t) ∧ (k = 0 → ¬ i + 1 < n → C = [])
  | 0 => ⟨if i + 1 < n then [10] else [], rfl, fun h => ⟨[], if_pos h⟩, fun _ h => if_neg h⟩
  | k + 1 => by
    obtain ⟨C, e, h1, _⟩ := jS_split0 f n i k
    refine ⟨C ++ (f (i + 1 + k) ++ if i + 1 + k + 1 < n then [10] else []), by rw [← Nat.add_assoc, jS_succ, e]; simp only [List.append_assoc], fun h => ?_, fun h => by omega⟩
    obtain ⟨t, rfl⟩ := h1 h
    exact ⟨_, rfl⟩
theorem jS_split (f : Nat → List UInt8) (n i : Nat) (h : i < n) (k : Nat) (hk : i + 1 + k = n) : ∃ C, jS f n (i + 1 + k) = jS f n i ++ f i ++ C ∧ (C = [] ∨ ∃ t, C = 10 :: t) := by
  obtain ⟨C, e, h1, h2⟩ := jS_split0 f n i k
  refine ⟨C, e, ?_⟩
  by_cases h3 : i + 1 < n
  · exact .inr (h1 h3)
  · exact .inl (h2 (by omega) h3)

theorem lf_get {s : ByteArray} {j : Nat} (h : j < s.size) : lf s j = (s.data.toList[j]? == some 10) := by
  have h2 : j < s.data.toList.length := by rw [Array.length_toList]; exact h
  unfold lf
  rw [lf_list s j h, List.getElem?_eq_getElem h2]
  generalize s.data.toList[j] = c
  rw [Bool.eq_iff_iff]
  simp [← UInt8.toNat_inj]
/-- A line in its text. -/
theorem one_line {s : ByteArray} {A B C : List UInt8} (h : s.data.toList = A ++ B ++ C) (hA : A = [] ∨ ∃ l, A = l ++ [10]) (hB : ∀ c ∈ B, c ≠ 10) (hC : C = [] ∨ ∃ t, C = 10 :: t) :
    stP s A.length = A.length ∧ enP s A.length = A.length + B.length ∧ cntP s A.length = A.count 10 ∧ A.length + B.length ≤ s.size := by
  have hs : s.size = A.length + B.length + C.length := by
    show s.data.size = _
    rw [← Array.length_toList, h, List.length_append, List.length_append]
  refine ⟨stP_eq s _ _ (Nat.le_refl _) ?_ (fun j h1 h2 => by omega), enP_eq s _ _ (by omega) (by omega) ?_ ?_, ?_, by omega⟩
  · rcases hA with rfl | ⟨l, rfl⟩
    · exact .inl rfl
    · refine .inr ?_
      rw [lf_get (by simp at hs ⊢; omega), h]
      simp
  · intro j h1 h2
    rw [lf_get (by omega), h, List.append_assoc, List.getElem?_append_right h1, List.getElem?_append_left (by omega)]
    have h3 : j - A.length < B.length := by omega
    rw [List.getElem?_eq_getElem h3]
    have := hB _ (List.getElem_mem h3)
    simpa using this
  · rcases hC with rfl | ⟨t, rfl⟩
    · exact .inl (by simp at hs; omega)
    · refine .inr ?_
      rw [lf_get (by simp at hs; omega), h, List.getElem?_append_right (by simp)]
      simp
  · rw [← count_cnt s _ (by omega)]
    unfold Go.Lib.countByte
    rw [lf_ext, h]
    simp
/-- Of all lines. -/
theorem lines_at {s : ByteArray} {f : Nat → List UInt8} {n : Nat} (h : s.data.toList = jS f n n) (hf : ∀ j, ∀ c ∈ f j, c ≠ 10) (i : Nat) (hi : i < n) :
    fsP s i = jA f i ∧ enP s (jA f i) = jA f i + (f i).length ∧ jA f i + (f i).length ≤ s.size ∧ (∀ c : Int, (f i).length ≤ c → atP s i c = jA f i + (f i).length) := by
  obtain ⟨C, e, hC⟩ := jS_split f n i hi (n - i - 1) (by omega)
  rw [show i + 1 + (n - i - 1) = n by omega] at e
  rw [e] at h
  obtain ⟨h1, h2, h3, h4⟩ := one_line h (by
    by_cases h0 : i = 0
    · subst h0; exact .inl rfl
    · exact .inr (jS_last f n i hi (by omega))) (hf i) hC
  rw [jS_len f n i hi] at h1 h2 h3 h4
  rw [jS_count f n hf i hi] at h3
  have h5 := fsP_cnt s (jA f i) (by omega)
  rw [h3, h1] at h5
  refine ⟨h5, h2, h4, fun c hc => ?_⟩
  unfold atP
  rw [Int.toNat_natCast, h5, h2]
  omega
theorem lines_cnt {s : ByteArray} {f : Nat → List UInt8} {n : Nat} (h : s.data.toList = jS f n n) (hf : ∀ j, ∀ c ∈ f j, c ≠ 10) (hn : 0 < n) : cntP s s.size = n - 1 := by
  rw [← count_cnt s _ (Nat.le_refl _), ← jS_full f n hf hn, ← h]
  unfold Go.Lib.countByte
  rw [lf_ext]
  congr 1
  rw [List.drop_zero, Nat.sub_zero, List.take_of_length_le]
  rw [Array.length_toList]; exact Nat.le_refl _
end Go.Proofs.Ytkmcfcpockpadaa
