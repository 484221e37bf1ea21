/- Where runes stand: from the end of a text it is taken apart as from its front. Plain facts, no walk. -/
import Derived.Test.YtkmcfcpockpadaaDoorUtf3
import Derived.Test.YtkmcfcpockpadaaDoorStarts
import Derived.Shelf.Unicode.DecodeLast
namespace Go.Proofs.YtkmcfcpockpadaaDoor

/-- What a decoding takes. -/
theorem dec_facts (s : ByteArray) (i : Nat) : (Utf8.decode s i).2 ≤ 4 ∧ (2 ≤ (Utf8.decode s i).2 → 192 ≤ (s.get! i).toNat) ∧ (∀ j, 1 ≤ j → j < (Utf8.decode s i).2 → (s.get! (i + j)).toNat / 64 = 2) ∧ ((s.get! i).toNat < 128 → Utf8.decode s i = ((s.get! i).toNat, 1)) ∧ ((Utf8.decode s i).2 = 1 → 128 ≤ (s.get! i).toNat → Utf8.decode s i = (65533, 1)) := by
  have lb0 := (s.get! i).toNat_lt
  unfold Utf8.decode
  simp only [Nat.add_zero]
  repeat' split
  all_goals
    refine ⟨by simp, ?_, ?_, ?_, ?_⟩
    · intro h; simp at h; try (simp_all <;> omega)
    · intro j h1 h2
      have hj : j = 1 ∨ j = 2 ∨ j = 3 := by simp at h2; omega
      rcases hj with rfl | rfl | rfl <;> simp_all
    · intro h; try (simp_all <;> omega)
    · intro h1 h2; try (simp_all [Utf8.runeError] <;> omega)

theorem start_mem {s : ByteArray} {p : Nat} (hp : p < s.size) (hs : (s.get! p).toNat / 64 ≠ 2) : ∀ f pos, pos ≤ p → s.size ≤ pos + f → p ∈ startsFrom s f pos
  | 0, pos, h1, h2 => absurd h2 (by omega)
  | f + 1, pos, h1, h2 => by
    rw [startsFrom_go (by omega)]
    by_cases e : pos = p
    · subst e; exact List.mem_cons_self
    · obtain ⟨_, _, hc, _⟩ := dec_facts s pos
      by_cases h : pos + (Utf8.decode s pos).2 ≤ p
      · exact List.mem_cons_of_mem _ (start_mem hp hs f _ h (by have := dec_in s pos (by omega); omega))
      · have := hc (p - pos) (by omega) (by omega)
        rw [show pos + (p - pos) = p by omega] at this
        exact absurd this hs

theorem last_spec (s : ByteArray) : ∀ f pos, pos < s.size → s.size ≤ pos + f → ∃ k, (startsFrom s f pos).getLast? = some k ∧ k < s.size ∧ k + (Utf8.decode s k).2 = s.size ∧ ∀ x ∈ startsFrom s f pos, x + (Utf8.decode s x).2 = s.size → x = k
  | 0, pos, h1, h2 => absurd h2 (by omega)
  | f + 1, pos, h1, h2 => by
    have hd := dec_in s pos h1
    rw [startsFrom_go h1]
    by_cases h : pos + (Utf8.decode s pos).2 < s.size
    · obtain ⟨k, e, hk, hw, hu⟩ := last_spec s f (pos + (Utf8.decode s pos).2) h (by omega)
      refine ⟨k, ?_, hk, hw, fun x hx he => ?_⟩
      · rw [List.getLast?_cons, e]; rfl
      · rcases List.mem_cons.1 hx with rfl | hx
        · omega
        · exact hu x hx he
    · rw [startsFrom_end h]
      exact ⟨pos, rfl, h1, by omega, fun x hx _ => by simpa using hx⟩

/-- The place of the last rune. -/
def lastS (s : ByteArray) : Nat := (starts s)[(starts s).length - 1]?.getD 0
theorem lastS_spec {s : ByteArray} (h : 0 < s.size) : lastS s < s.size ∧ lastS s + (Utf8.decode s (lastS s)).2 = s.size ∧ 1 ≤ (starts s).length ∧ ∀ x ∈ starts s, x + (Utf8.decode s x).2 = s.size → x = lastS s := by
  obtain ⟨k, e, hk, hw, hu⟩ := last_spec s s.size 0 h (by omega)
  have e' : lastS s = k := by
    unfold lastS; rw [← List.getLast?_eq_getElem?]; unfold starts; rw [e]; rfl
  rw [e']
  refine ⟨hk, hw, ?_, hu⟩
  unfold starts
  cases hz : startsFrom s s.size 0 with
  | nil => rw [hz] at e; simp at e
  | cons a l => simp

theorem startB {s : ByteArray} {i : Nat} (b : Bool) (h : ((s.get! i).toNat / 64 ≠ 2) ↔ b = true) : Lib.runeStartB (s.data.toList.getD i 0) = b := by
  rw [Lib.getD_get!]
  unfold Lib.runeStartB
  rw [Bool.eq_iff_iff, ← h]
  simp
theorem startB_t {s : ByteArray} {i : Nat} (h : (s.get! i).toNat / 64 ≠ 2) : Lib.runeStartB (s.data.toList.getD i 0) = true := startB true (by simp [h])
theorem startB_f {s : ByteArray} {i : Nat} (h : (s.get! i).toNat / 64 = 2) : Lib.runeStartB (s.data.toList.getD i 0) = false := startB false (by simp [h])

/-- A rune of two bytes or more that ends the text is found from its end. -/
theorem lastStart_of {s : ByteArray} {k : Nat} (h2 : 2 ≤ (Utf8.decode s k).2) (he : k + (Utf8.decode s k).2 = s.size) : Lib.lastStart s.data.toList = k := by
  obtain ⟨h4, hl, hc, _⟩ := dec_facts s k
  have hlen : s.data.toList.length = s.size := rfl
  have h0 : Lib.runeStartB (s.data.toList.getD k 0) = true := startB_t (by have := hl h2; omega)
  have hn : (Utf8.decode s k).2 = 2 ∨ (Utf8.decode s k).2 = 3 ∨ (Utf8.decode s k).2 = 4 := by omega
  rcases hn with hn | hn | hn
  · exact Lib.lastStart_at2 _ k (by omega) h0
  · exact Lib.lastStart_at3 _ k (by omega) (startB_f (hc 1 (by omega) (by omega))) h0
  · exact Lib.lastStart_at4 _ k (by omega) (startB_f (hc 2 (by omega) (by omega))) (startB_f (hc 1 (by omega) (by omega))) h0

/-- The last rune of a text is the one that stands last from its front. -/
theorem last_eq {s : ByteArray} (h : 0 < s.size) : Lib.decodeLastL s.data.toList = Utf8.decode s (lastS s) := by
  obtain ⟨hk, hw, hl, hu⟩ := lastS_spec h
  generalize lastS s = k at hk hw hu
  obtain ⟨h4, h192, hc, hasc, herr⟩ := dec_facts s k
  have hd := dec_in s k hk
  have hlen : s.data.toList.length = s.size := rfl
  have hne : s.data.toList ≠ [] := fun e => by rw [e] at hlen; simp at hlen; omega
  unfold Lib.decodeLastL
  rw [if_neg hne, hlen, Lib.getD_get!, Lib.decodeL_drop]
  by_cases h1 : (Utf8.decode s k).2 = 1
  · have ek : s.size - 1 = k := by omega
    rw [ek]
    by_cases ha : (s.get! k).toNat < 128
    · rw [if_pos ha, hasc ha]
    · rw [if_neg ha, herr h1 (by omega)]
      dsimp only
      split
      · rename_i hj
        generalize hjj : Lib.lastStart s.data.toList = j at hj
        have hjl : j < s.size := by rw [← hjj, ← hlen]; exact Lib.lastStart_lt _ hne
        by_cases hjk : j = k
        · rw [hjk]; exact herr h1 (by omega)
        · obtain ⟨j4, j192, _, _, _⟩ := dec_facts s j
          have hm := start_mem hjl (by have := j192 (by omega); omega) s.size 0 (by omega) (by omega)
          exact absurd (hu j hm hj) hjk
      · rfl
  · have hls := lastStart_of (s := s) (k := k) (by omega) hw
    have hb := hc ((Utf8.decode s k).2 - 1) (by omega) (by omega)
    rw [show k + ((Utf8.decode s k).2 - 1) = s.size - 1 by omega] at hb
    rw [if_neg (by omega), hls]
    dsimp only
    rw [if_pos hw]

theorem prefix_size {s : ByteArray} {p : Nat} (h : p ≤ s.size) : (s.extract 0 p).size = p := by simp; omega
theorem prefix_ext {s : ByteArray} {p i n : Nat} (h : p ≤ s.size) (hi : i + n ≤ p) : (s.extract 0 p).extract i (i + n) = s.extract i (i + n) := by
  rw [Lib.extract_eq, Lib.extract_eq, Lib.extract_eq]
  simp only [List.drop_zero, Nat.sub_zero, Nat.add_sub_cancel_left]
  rw [List.drop_take, List.take_take, Nat.min_eq_left (by omega)]
theorem dec3_ok {s : ByteArray} {i : Nat} (h : (dec3 s i).2.2 = false) : Utf8.decode s i = (65533, 1) := by
  unfold dec3 at h
  simp only [Bool.not_eq_false', Bool.and_eq_true, beq_iff_eq] at h
  exact Prod.ext h.1 h.2
theorem put_ok {r : Int} (hv : (0 ≤ r ∧ r < 55296) ∨ (57344 ≤ r ∧ r ≤ 1114111)) : ¬ ((r.toNat, (putS r).size) = (65533, 1)) := by
  intro e
  injection e with e1 e2
  rcases put_cases r with ⟨h, b⟩ | ⟨h, b⟩ | ⟨h, b⟩ | ⟨h, b⟩ | ⟨h, b⟩
  all_goals first | omega | (rw [h] at e2; simp [ByteArray.size] at e2)
/-- A rune that ends within a text's front is read there as in the text. -/
theorem decode_prefix {s : ByteArray} {p i : Nat} (hp : p ≤ s.size) (hi : i < p) (h : i + (Utf8.decode s i).2 ≤ p) : Utf8.decode (s.extract 0 p) i = Utf8.decode s i := by
  have hz := prefix_size hp
  cases hk : (dec3 s i).2.2
  · rw [dec3_ok hk]
    cases hk2 : (dec3 (s.extract 0 p) i).2.2
    · exact dec3_ok hk2
    · obtain ⟨r, hv, he, hs⟩ := ok_put (by omega) hk2
      rw [hz] at hs
      rw [prefix_ext hp hs] at he
      have := (decode_put hv he (by omega)).1
      rw [dec3_ok hk] at this
      exact absurd this.symm (put_ok hv)
  · obtain ⟨r, hv, he, hs⟩ := ok_put (by omega) hk
    have d := (decode_put hv he hs).1
    rw [d] at h ⊢
    exact (decode_put hv (by rw [prefix_ext hp h, he]) (by rw [hz]; exact h)).1
theorem starts_prefix {s : ByteArray} {p : Nat} (hp : p ≤ s.size) : ∀ f g pos, p ≤ pos + g → s.size ≤ pos + f → ∀ i ∈ startsFrom s f pos, i + (Utf8.decode s i).2 ≤ p → i ∈ startsFrom (s.extract 0 p) g pos
  | 0, g, pos, h1, h2, i, hi, he => by simp [startsFrom] at hi
  | f + 1, g, pos, h1, h2, i, hi, he => by
    have hil := starts_lt s _ _ i hi
    have hdi := dec_in s i hil.2
    have hpp : pos < p := by omega
    obtain ⟨g, rfl⟩ : ∃ m, g = m + 1 := ⟨g - 1, by omega⟩
    rw [startsFrom_go (by rw [prefix_size hp]; exact hpp)]
    rw [startsFrom_go (by omega)] at hi
    rcases List.mem_cons.1 hi with rfl | hi
    · exact List.mem_cons_self
    · have hl2 := starts_lt s _ _ i hi
      have hdp := dec_in s pos (by omega)
      rw [decode_prefix hp hpp (by omega)]
      exact List.mem_cons_of_mem _ (starts_prefix hp f g _ (by omega) (by omega) i hi he)
/-- From the end of a rune it is read back. -/
theorem back_at {s : ByteArray} {i : Nat} (hi : i ∈ starts s) : Lib.decodeLastL (s.extract 0 (i + (Utf8.decode s i).2)).data.toList = Utf8.decode s i := by
  have hil := starts_lt s _ _ i hi
  have hd := dec_in s i hil.2
  have hz := prefix_size (s := s) (p := i + (Utf8.decode s i).2) (by omega)
  have hm := starts_prefix (p := i + (Utf8.decode s i).2) (by omega) s.size (s.extract 0 (i + (Utf8.decode s i).2)).size 0 (by omega) (by omega) i hi (Nat.le_refl _)
  have he := decode_prefix (s := s) (p := i + (Utf8.decode s i).2) (i := i) (by omega) (by omega) (Nat.le_refl _)
  rw [last_eq (by omega), ← (lastS_spec (by omega)).2.2.2 i hm (by rw [he, hz]), he]

/-- Each rune stands behind the one ahead. -/
theorem starts_next (s : ByteArray) : ∀ f pos j, j + 1 < (startsFrom s f pos).length → (startsFrom s f pos)[j + 1]?.getD 0 = (startsFrom s f pos)[j]?.getD 0 + (Utf8.decode s ((startsFrom s f pos)[j]?.getD 0)).2
  | 0, _, j, h => by simp [startsFrom] at h
  | f + 1, pos, j, h => by
    by_cases hp : pos < s.size
    · rw [startsFrom_go hp] at h ⊢
      match j with
      | 0 =>
        simp only [List.length_cons] at h
        match f with
        | 0 => simp [startsFrom] at h
        | f + 1 =>
          by_cases h2 : pos + (Utf8.decode s pos).2 < s.size
          · rw [startsFrom_go h2]; simp
          · rw [startsFrom_end h2] at h; simp at h
      | j + 1 =>
        have := starts_next s f (pos + (Utf8.decode s pos).2) j (by simpa using h)
        simpa using this
    · rw [startsFrom_end hp] at h; simp at h
theorem starts_head {s : ByteArray} (h : 0 < s.size) : (starts s)[0]?.getD 0 = 0 := by
  unfold starts
  obtain ⟨f, e⟩ : ∃ f, s.size = f + 1 := ⟨s.size - 1, by omega⟩
  rw [e, startsFrom_go h]; rfl
end Go.Proofs.YtkmcfcpockpadaaDoor
