/- Lines of a text: where a line begins and ends, which line a place is in, where a line is. Plain. -/
import Derived.Lib.LastIndexByte
import Derived.Lib.Bytealg
import Derived.Laws.BytesArg
namespace Go.Proofs.YtkmcfcpockpadaaDoor

/-- Does a line feed stand there? -/
def lf (s : ByteArray) (j : Nat) : Bool := (s.get! j).toNat == 10
def stP (s : ByteArray) : Nat → Nat
  | 0 => 0
  | a + 1 => if lf s a then a + 1 else stP s a
def enF (s : ByteArray) : Nat → Nat → Nat
  | 0, a => a
  | f + 1, a => if lf s a then a else enF s f (a + 1)
def enP (s : ByteArray) (a : Nat) : Nat := enF s (s.size - a) a
def cntP (s : ByteArray) : Nat → Nat
  | 0 => 0
  | a + 1 => cntP s a + if lf s a then 1 else 0
theorem cntP_succ (s : ByteArray) (a : Nat) : cntP s (a + 1) = cntP s a + if lf s a then 1 else 0 := rfl
theorem stP_succ (s : ByteArray) (a : Nat) : stP s (a + 1) = if lf s a then a + 1 else stP s a := rfl
theorem lf_list (s : ByteArray) (j : Nat) (h : j < s.size) : s.get! j = s.data.toList[j]'(by simpa using h) := by
  show s.data[j]! = _
  rw [getElem!_pos s.data j h]
  simp
theorem lf_ext (s : ByteArray) (a b : Nat) : (s.extract a b).data.toList = (s.data.toList.drop a).take (b - a) := by
  rw [ByteArray.data_extract, Array.toList_extract, List.extract_eq_take_drop]
theorem stP_le (s : ByteArray) : ∀ a, stP s a ≤ a
  | 0 => Nat.le_refl _
  | a + 1 => by unfold stP; split; exact Nat.le_refl _; have := stP_le s a; omega
theorem stP_spec (s : ByteArray) : ∀ a, (stP s a = 0 ∨ lf s (stP s a - 1) = true) ∧ ∀ j, stP s a ≤ j → j < a → lf s j = false
  | 0 => ⟨.inl rfl, fun j _ h => by omega⟩
  | a + 1 => by
    unfold stP
    by_cases h : lf s a = true
    · rw [if_pos h]
      exact ⟨.inr h, fun j h1 h2 => by omega⟩
    · rw [if_neg h]
      refine ⟨(stP_spec s a).1, fun j h1 h2 => ?_⟩
      by_cases e : j = a
      · subst e; simpa using h
      · exact (stP_spec s a).2 j h1 (by omega)
theorem stP_eq (s : ByteArray) : ∀ a k, k ≤ a → (k = 0 ∨ lf s (k - 1) = true) → (∀ j, k ≤ j → j < a → lf s j = false) → stP s a = k
  | 0, k, h, _, _ => by simp [stP]; omega
  | a + 1, k, h, h1, h2 => by
    unfold stP
    by_cases e : k = a + 1
    · subst e
      rcases h1 with h1 | h1
      · omega
      · rw [if_pos (by simpa using h1)]
    · rw [if_neg (by rw [h2 a (by omega) (by omega)]; simp)]
      exact stP_eq s a k (by omega) h1 (fun j h3 h4 => h2 j h3 (by omega))
theorem enF_spec (s : ByteArray) : ∀ f a, a + f = s.size → a ≤ enF s f a ∧ enF s f a ≤ s.size ∧ (∀ j, a ≤ j → j < enF s f a → lf s j = false) ∧ (enF s f a = s.size ∨ lf s (enF s f a) = true)
  | 0, a, h => ⟨Nat.le_refl _, by simp [enF]; omega, fun j h1 h2 => by simp [enF] at h2; omega, .inl (by simp [enF]; omega)⟩
  | f + 1, a, h => by
    unfold enF
    by_cases e : lf s a = true
    · rw [if_pos e]
      exact ⟨Nat.le_refl _, by omega, fun j h1 h2 => by omega, .inr e⟩
    · rw [if_neg e]
      obtain ⟨h1, h2, h3, h4⟩ := enF_spec s f (a + 1) (by omega)
      refine ⟨by omega, h2, fun j h5 h6 => ?_, h4⟩
      by_cases e2 : j = a
      · subst e2; simpa using e
      · exact h3 j (by omega) h6
theorem enP_spec (s : ByteArray) (a : Nat) (h : a ≤ s.size) : a ≤ enP s a ∧ enP s a ≤ s.size ∧ (∀ j, a ≤ j → j < enP s a → lf s j = false) ∧ (enP s a = s.size ∨ lf s (enP s a) = true) := enF_spec s _ a (by omega)
theorem enP_eq (s : ByteArray) (a e : Nat) (h1 : a ≤ e) (h2 : e ≤ s.size) (h3 : ∀ j, a ≤ j → j < e → lf s j = false) (h4 : e = s.size ∨ lf s e = true) : enP s a = e := by
  obtain ⟨g1, g2, g3, g4⟩ := enP_spec s a (by omega)
  rcases Nat.lt_trichotomy (enP s a) e with h | h | h
  · rcases g4 with g4 | g4
    · omega
    · rw [h3 _ g1 h] at g4; cases g4
  · exact h
  · rcases h4 with h4 | h4
    · omega
    · rw [g3 _ h1 h] at h4; cases h4
theorem enP_step (s : ByteArray) (a : Nat) (h : a < s.size) (hl : lf s a = false) : enP s (a + 1) = enP s a := by
  obtain ⟨g1, g2, g3, g4⟩ := enP_spec s (a + 1) (by omega)
  exact (enP_eq s a _ (by omega) g2 (fun j h1 h2 => by by_cases e : j = a; (subst e; exact hl); exact g3 j (by omega) h2) g4).symm
theorem enP_hit (s : ByteArray) (a : Nat) (h : a < s.size) (hl : lf s a = true) : enP s a = a := enP_eq s a a (Nat.le_refl _) (by omega) (fun j h1 h2 => by omega) (.inr hl)
theorem enP_end (s : ByteArray) : enP s s.size = s.size := enP_eq s _ _ (Nat.le_refl _) (Nat.le_refl _) (fun j h1 h2 => by omega) (.inl rfl)
theorem cntP_le (s : ByteArray) : ∀ a, cntP s a ≤ a
  | 0 => Nat.le_refl _
  | a + 1 => by unfold cntP; have := cntP_le s a; split <;> omega
theorem cntP_mono (s : ByteArray) {a b : Nat} (h : a ≤ b) : cntP s a ≤ cntP s b := by
  induction h with
  | refl => exact Nat.le_refl _
  | step h ih => rw [cntP_succ]; omega
theorem cntP_flat (s : ByteArray) {a b : Nat} (h : a ≤ b) (hn : ∀ j, a ≤ j → j < b → lf s j = false) : cntP s b = cntP s a := by
  induction h with
  | refl => rfl
  | @step m h ih => rw [cntP_succ, hn m h (by omega), ih (fun j h1 h2 => hn j h1 (by omega))]; simp
theorem cntP_st (s : ByteArray) (a : Nat) : cntP s (stP s a) = cntP s a := (cntP_flat s (stP_le s a) (stP_spec s a).2).symm

/-- First, by the document: where the last line feed was that counted, and how many lines are still wanted, behind so many bytes. -/
def fsA (s : ByteArray) (L : Nat) : Nat → Nat × Nat
  | 0 => (0, L)
  | i + 1 => if (fsA s L i).2 = 0 then fsA s L i else if lf s i then (i + 1, (fsA s L i).2 - 1) else fsA s L i
def fsP (s : ByteArray) (L : Nat) : Nat := (fsA s L s.size).1
theorem fsA_succ (s : ByteArray) (L i : Nat) : fsA s L (i + 1) = if (fsA s L i).2 = 0 then fsA s L i else if lf s i then (i + 1, (fsA s L i).2 - 1) else fsA s L i := rfl
theorem fsA_stop (s : ByteArray) (L i : Nat) (h : (fsA s L i).2 = 0) : ∀ k, fsA s L (i + k) = fsA s L i
  | 0 => rfl
  | k + 1 => by
    have ih := fsA_stop s L i h k
    rw [← Nat.add_assoc]
    show (if (fsA s L (i + k)).2 = 0 then fsA s L (i + k) else _) = _
    rw [ih, if_pos h]
theorem fsA_done (s : ByteArray) (L i : Nat) (h : (fsA s L i).2 = 0) (hi : i ≤ s.size) : fsP s L = (fsA s L i).1 := by
  unfold fsP
  rw [show s.size = i + (s.size - i) by omega, fsA_stop s L i h]
/-- As long as no more line feeds were passed than are wanted. -/
theorem fsA_cnt (s : ByteArray) (L : Nat) : ∀ i, cntP s i ≤ L → fsA s L i = (stP s i, L - cntP s i)
  | 0, _ => rfl
  | i + 1, h => by
    have hm := cntP_mono s (show i ≤ i + 1 by omega)
    have ih := fsA_cnt s L i (by omega)
    rw [cntP_succ] at h
    rw [fsA_succ, stP_succ, cntP_succ, ih]
    by_cases hl : lf s i = true
    · rw [if_pos hl] at h
      rw [if_pos hl, if_pos hl, if_pos hl, if_neg (show ¬ L - cntP s i = 0 by omega)]
      rw [Nat.sub_sub]
    · rw [if_neg hl, if_neg hl, if_neg hl]
      simp
theorem fsP_cnt (s : ByteArray) (a : Nat) (h : a ≤ s.size) : fsP s (cntP s a) = stP s a := by
  have h1 := fsA_cnt s (cntP s a) a (Nat.le_refl _)
  rw [fsA_done s _ a (by rw [h1]; simp) h, h1]
theorem fsP_zero (s : ByteArray) : fsP s 0 = 0 := fsA_done s 0 0 rfl (by omega)
theorem fsP_le (s : ByteArray) (L : Nat) : fsP s L ≤ s.size := by
  have : ∀ i, (fsA s L i).1 ≤ i := fun i => by
    induction i with
    | zero => exact Nat.le_refl _
    | succ i ih => rw [fsA_succ]; (repeat' split) <;> omega
  exact this _
/-- First, by the program: from a line's beginning on, so many lines are wanted. -/
theorem fsA_part (s : ByteArray) (L i e : Nat) (he : i ≤ e) (hn : ∀ j, i ≤ j → j < e → lf s j = false) : fsA s L e = fsA s L i := by
  induction he with
  | refl => rfl
  | @step m h ih => rw [fsA_succ, hn m h (by omega), ih (fun j h1 h2 => hn j h1 (by omega))]; simp
theorem fsA_go (s : ByteArray) (L at1 n : Nat) (h : fsA s L at1 = (at1, n + 1)) (ha : at1 ≤ s.size) (hl : lf s (enP s at1) = true) : fsA s L (enP s at1 + 1) = (enP s at1 + 1, n) := by
  obtain ⟨h1, h2, h3, _⟩ := enP_spec s at1 ha
  have h4 := fsA_part s L at1 _ h1 h3
  show (if (fsA s L (enP s at1)).2 = 0 then _ else _) = _
  rw [h4, h, if_neg (by simp), if_pos hl]
  simp
theorem fsA_last (s : ByteArray) (L at1 n : Nat) (h : fsA s L at1 = (at1, n)) (ha : at1 ≤ s.size) (hl : enP s at1 = s.size) : fsP s L = at1 := by
  obtain ⟨h1, h2, h3, _⟩ := enP_spec s at1 ha
  have h4 := fsA_part s L at1 _ h1 h3
  unfold fsP
  rw [hl] at h4
  rw [h4, h]

/-- The nearest place. -/
def nearP (s : ByteArray) (a : Int) : Nat := (min (max a 0) s.size).toNat
theorem nearP_le (s : ByteArray) (a : Int) : nearP s a ≤ s.size := by unfold nearP; omega
theorem nearP_of (s : ByteArray) (a : Nat) (h : a ≤ s.size) : nearP s a = a := by unfold nearP; omega
/-- At, by the document. -/
def atP (s : ByteArray) (line col : Int) : Nat := fsP s line.toNat + (min (max col 0) ((enP s (fsP s line.toNat) - fsP s line.toNat : Nat) : Int)).toNat
theorem atP_of (s : ByteArray) (k : Nat) (h : k ≤ s.size) : atP s (cntP s k) ((k : Int) - stP s k) = k := by
  unfold atP
  simp only [Int.toNat_natCast]
  rw [fsP_cnt s k h]
  have h1 := stP_le s k
  have h2 := stP_spec s k
  have h3 := enP_spec s (stP s k) (by omega)
  have h4 : k ≤ enP s (stP s k) := by
    rcases Nat.lt_or_ge (enP s (stP s k)) k with h5 | h5
    · rcases h3.2.2.2 with h6 | h6
      · omega
      · rw [h2.2 _ h3.1 h5] at h6; cases h6
    · exact h5
  omega
theorem st_en (s : ByteArray) (k : Nat) (h : k ≤ s.size) : stP s (enP s k) = stP s k := by
  have h3 := enP_spec s k h
  have h2 := stP_spec s k
  have h1 := stP_le s k
  exact stP_eq s _ _ (by omega) h2.1 fun j h5 h6 => by
    by_cases e : j < k
    · exact h2.2 j h5 e
    · exact h3.2.2.1 j (by omega) h6
theorem en_st (s : ByteArray) (k : Nat) (h : k ≤ s.size) : enP s (stP s k) = enP s k := by
  have h3 := enP_spec s k h
  have h2 := stP_spec s k
  have h1 := stP_le s k
  exact enP_eq s _ _ (by omega) h3.2.1 (fun j h5 h6 => by
    by_cases e : j < k
    · exact h2.2 j h5 e
    · exact h3.2.2.1 j (by omega) h6) h3.2.2.2

/-- What the library finds. -/
theorem lf_data (s : ByteArray) (j : Nat) : s.data[j]! = s.get! j := rfl
theorem last_st (s : ByteArray) (a : Nat) (h : a ≤ s.size) : Go.Lib.lastIndexByte (s.extract 0 a) 10 + 1 = (stP s a : Nat) := by
  have hsz : (s.extract 0 a).size = a := by simp; omega
  have hg : ∀ j, j < a → ((s.extract 0 a).data[j]!) = s.get! j := fun j hj => by
    have h1 : j < (s.extract 0 a).size := by omega
    have h2 : j < s.size := by omega
    rw [lf_data, lf_list _ j h1, lf_list s j h2]
    rw [List.getElem_of_eq (lf_ext s 0 a), List.getElem_take, List.getElem_drop]
    simp only [Nat.zero_add]
  have hn : ∀ j, j < a → ((((s.extract 0 a).data[j]!).toNat : Int) ≠ 10 ↔ lf s j = false) := fun j hj => by
    rw [hg j hj]; unfold lf; generalize s.get! j = x; simp; omega
  rcases Go.Lib.lastIndexByte_spec (s.extract 0 a) 10 with ⟨e, h1⟩ | ⟨i, hi, e, h1, h2⟩
  · rw [e, hsz] at *
    rw [stP_eq s a 0 (by omega) (.inl rfl) fun j _ hj => (hn j hj).1 (h1 j hj)]
    rfl
  · rw [hsz] at hi h2
    have h3 : lf s i = true := by
      have := hn i hi
      cases hl : lf s i
      · exact absurd h1 (this.2 hl)
      · rfl
    rw [e, stP_eq s a (i + 1) (by omega) (.inr (by simpa using h3)) fun j h5 h6 => (hn j h6).1 (h2 j (by omega) h6)]
    rfl
theorem idx_spec (c : UInt8) : ∀ l : List UInt8, (Go.Lib.indexByte l c = -1 ∧ ∀ j (h : j < l.length), l[j] ≠ c) ∨ ∃ i : Nat, ∃ h : i < l.length, Go.Lib.indexByte l c = i ∧ l[i] = c ∧ ∀ j (h : j < i), l[j] ≠ c
  | [] => .inl ⟨rfl, fun j h => by simp at h⟩
  | b :: l => by
    unfold Go.Lib.indexByte
    by_cases hb : b = c
    · exact .inr ⟨0, by simp, by simp [hb], hb, fun j h => by omega⟩
    · rw [if_neg (by simpa using hb)]
      rcases idx_spec c l with ⟨e, h⟩ | ⟨i, hi, e, h1, h2⟩
      · refine .inl ⟨by rw [e]; rfl, fun j hj => ?_⟩
        cases j with
        | zero => exact hb
        | succ j => simpa using h j (by simpa using hj)
      · refine .inr ⟨i + 1, by simp; omega, ?_, by simpa using h1, fun j hj => ?_⟩
        · rw [e, if_neg (by simp)]; omega
        · cases j with
          | zero => exact hb
          | succ j => simpa using h2 j (by omega)
theorem index_en (s : ByteArray) (a : Nat) (h : a ≤ s.size) : (Go.Lib.indexByte (s.extract a s.size).data.toList 10 = -1 ∧ enP s a = s.size ∧ ∀ j, a ≤ j → j < s.size → lf s j = false) ∨ (Go.Lib.indexByte (s.extract a s.size).data.toList 10 = ((enP s a - a : Nat) : Int) ∧ enP s a < s.size ∧ lf s (enP s a) = true) := by
  have hsz : (s.extract a s.size).data.toList.length = s.size - a := by
    have : (s.extract a s.size).size = s.size - a := by simp
    rw [Array.length_toList]; exact this
  have hg : ∀ j (hj : j < (s.extract a s.size).data.toList.length), (s.extract a s.size).data.toList[j] = s.get! (a + j) := fun j hj => by
    have h2 : a + j < s.size := by omega
    rw [lf_list s _ h2]
    rw [List.getElem_of_eq (lf_ext s a s.size), List.getElem_take, List.getElem_drop]
  have hn : ∀ j (hj : j < (s.extract a s.size).data.toList.length), ((s.extract a s.size).data.toList[j] = 10 ↔ lf s (a + j) = true) := fun j hj => by
    rw [hg j hj]; unfold lf; generalize s.get! (a + j) = x; simp [← UInt8.toNat_inj]
  rcases idx_spec 10 (s.extract a s.size).data.toList with ⟨e, h1⟩ | ⟨i, hi, e, h1, h2⟩
  · have hno : ∀ j, a ≤ j → j < s.size → lf s j = false := fun j h3 h4 => by
      have := hn (j - a) (by omega)
      rw [show a + (j - a) = j by omega] at this
      cases hl : lf s j
      · rfl
      · exact absurd (this.2 hl) (h1 _ _)
    exact .inl ⟨e, enP_eq s a _ h (Nat.le_refl _) hno (.inl rfl), hno⟩
  · have he : enP s a = a + i := enP_eq s a _ (by omega) (by omega) (fun j h3 h4 => by
      have := hn (j - a) (by omega)
      rw [show a + (j - a) = j by omega] at this
      cases hl : lf s j
      · rfl
      · exact absurd (this.2 hl) (h2 _ (by omega))) (.inr ((hn i hi).1 h1))
    exact .inr ⟨by rw [e, he]; congr 1; omega, by omega, by rw [he]; exact (hn i hi).1 h1⟩
theorem count_cnt (s : ByteArray) (a : Nat) (h : a ≤ s.size) : Go.Lib.countByte (s.extract 0 a).data.toList 10 = cntP s a := by
  have hd : (s.extract 0 a).data.toList = s.data.toList.take a := by simp
  rw [hd]
  unfold Go.Lib.countByte
  induction a with
  | zero => simp [cntP]
  | succ a ih =>
    have hlt : a < s.data.toList.length := by rw [Array.length_toList]; exact h
    rw [List.take_succ_eq_append_getElem hlt, List.count_append, ih (by omega) (by simp)]
    rw [cntP_succ]
    congr 1
    rw [← lf_list s a h]
    unfold lf
    by_cases hc : s.get! a = 10
    · rw [hc]; rfl
    · have h9 : ¬ (s.get! a).toNat = 10 := fun e => hc (UInt8.toNat_inj.1 e)
      simp [hc, h9]
end Go.Proofs.YtkmcfcpockpadaaDoor
