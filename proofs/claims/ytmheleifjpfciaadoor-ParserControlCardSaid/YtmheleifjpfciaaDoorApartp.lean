/- Plain: what the bytes of parts ask for. No program in sight. -/
import Derived.Test.YtmheleifjpfciaaDoorAtold
import Derived.Test.YtmheleifjpfciaaDoorArfeed
namespace Go.Proofs.YtmheleifjpfciaaDoor

def runL : Nat × ByteArray → List UInt8 → (Nat × ByteArray) × List Ac
  | p, [] => (p, [])
  | p, c :: l => ((runL (feed p c.toNat).1 l).1, (feed p c.toNat).2 ++ (runL (feed p c.toNat).1 l).2)
theorem runL_app (p : Nat × ByteArray) (l m : List UInt8) : runL p (l ++ m) = ((runL (runL p l).1 m).1, (runL p l).2 ++ (runL (runL p l).1 m).2) := by
  induction l generalizing p with
  | nil => simp [runL]
  | cons c l ih => simp only [List.cons_append, runL]; rw [ih]; simp
theorem take_byte {s : ByteArray} {k : Nat} (h : k < s.size) : s.data.toList.take (k + 1) = s.data.toList.take k ++ [s[k]] := by
  rw [List.take_succ_eq_append_getElem (by simpa using h)]; rfl
theorem outA_run (s : ByteArray) (k : Nat) (h : k ≤ s.size) : runL (0, ⟨#[]⟩) (s.data.toList.take k) = (stA s k, outA s k) := by
  induction k with
  | zero => rfl
  | succ k ih =>
    rw [take_byte (by omega), runL_app, ih (by omega)]
    simp only [runL, stA, outA, List.append_nil]
    rw [get_of (by omega : k < s.size)]
theorem outA_all (s : ByteArray) : outA s s.size = (runL (0, ⟨#[]⟩) s.data.toList).2 := by
  have h := outA_run s s.size (Nat.le_refl _)
  rw [List.take_of_length_le (by rw [Array.length_toList]; exact Nat.le_refl _)] at h
  rw [h]
/-- These bytes ask for just this, from the beginning, and lead back there. -/
def Asks (l : List UInt8) (a : Ac) : Prop := runL (0, ⟨#[]⟩) l = ((0, ⟨#[]⟩), [a])
theorem asks_ctl {c : UInt8} (h : c.toNat ≠ 27) (h1 : c.toNat < 32 ∨ c.toNat = 127) : Asks [c] ⟨2, c.toNat, [], 0⟩ := by
  unfold Asks
  simp only [runL, feed, if_true]
  rw [ground_ctl (by omega) (by omega)]
  rfl
theorem asks_esc {c : UInt8} (h : 48 ≤ c.toNat) (h1 : c.toNat < 127) (h2 : c.toNat ≠ 91) : Asks [27, c] ⟨4, 0, [], c.toNat⟩ := by
  unfold Asks
  have e1 : feed (0, ⟨#[]⟩) ((27 : UInt8).toNat : Int) = ((2, ⟨#[]⟩), []) := rfl
  have e2 : feed (2, ⟨#[]⟩) (c.toNat : Int) = ((0, ⟨#[]⟩), [⟨4, 0, [], c.toNat⟩]) := by
    rw [feed_2]
    exact seq2_esc (by omega) (by omega) (by omega)
  simp only [runL, e1, e2, List.nil_append, List.append_nil]
theorem run_text (t : ByteArray) (T : List UInt8) (h : ∀ c ∈ T, 32 ≤ c.toNat ∧ c.toNat < 64) : runL (3, t) T = ((3, t ++ ⟨T.toArray⟩), []) := by
  induction T generalizing t with
  | nil =>
    show ((3, t), []) = _
    rw [show (⟨([] : List UInt8).toArray⟩ : ByteArray) = ByteArray.empty from rfl, ByteArray.append_empty]
  | cons c l ih =>
    have hc := h c (by simp)
    have e : feed (3, t) (c.toNat : Int) = ((3, t ++ strOfNums [(c.toNat : Int)]), []) := by
      rw [feed_3]
      exact seq3_more (by omega) (by omega)
    simp only [runL, e, List.nil_append]
    rw [ih _ (fun c hc => h c (by simp [hc]))]
    have e2 : t ++ strOfNums [(c.toNat : Int)] ++ ⟨l.toArray⟩ = t ++ ⟨(c :: l).toArray⟩ := by
      rw [ByteArray.append_assoc]
      congr 1
      show (⟨#[UInt8.ofNat (c.toNat : Int).toNat]⟩ : ByteArray) ++ ⟨l.toArray⟩ = _
      rw [Int.toNat_natCast, UInt8.ofNat_toNat]
      apply ByteArray.ext
      simp [ByteArray.data_append]
    rw [e2]
theorem asks_csi {T : List UInt8} {l : List Int} {c : UInt8} (h : ∀ c ∈ T, 32 ≤ c.toNat ∧ c.toNat < 64) (hp : params ⟨T.toArray⟩ = some l) (h1 : 64 ≤ c.toNat) (h2 : c.toNat < 127) : Asks ([27, 91] ++ T ++ [c]) ⟨3, 0, l, c.toNat⟩ := by
  unfold Asks
  have e1 : runL (0, ⟨#[]⟩) [27, 91] = ((3, ⟨#[]⟩), []) := rfl
  rw [runL_app, runL_app, e1]
  simp only
  rw [run_text _ _ h]
  have e0 : (⟨#[]⟩ ++ ⟨T.toArray⟩ : ByteArray) = ⟨T.toArray⟩ := ByteArray.empty_append
  rw [e0]
  have e2 : feed (3, ⟨T.toArray⟩) (c.toNat : Int) = ((0, ⟨#[]⟩), [⟨3, 0, l, c.toNat⟩]) := by
    rw [feed_3]
    exact seq3_ok (by omega) (by omega) hp
  simp only [runL, e2, List.nil_append, List.append_nil]
/-- All that stands ahead of the last byte asks for nothing, and stands within. -/
theorem csi_within {T : List UInt8} (h : ∀ c ∈ T, 32 ≤ c.toNat ∧ c.toNat < 64) {k : Nat} (h1 : 1 ≤ k) (hk : k ≤ T.length + 2) : ∃ a t, (a = 2 ∨ a = 3) ∧ runL (0, ⟨#[]⟩) (([27, 91] ++ T).take k) = ((a, t), []) := by
  by_cases hk1 : k = 1
  · subst hk1; exact ⟨2, _, .inl rfl, rfl⟩
  · refine ⟨3, ⟨#[]⟩ ++ ⟨(T.take (k - 2)).toArray⟩, .inr rfl, ?_⟩
    have e : ([27, 91] ++ T).take k = [27, 91] ++ T.take (k - 2) := by
      rw [List.take_append, List.take_of_length_le (by simp; omega)]; rfl
    have e1 : runL (0, ⟨#[]⟩) [27, 91] = ((3, ⟨#[]⟩), []) := rfl
    rw [e, runL_app, e1]
    simp only [List.nil_append]
    rw [run_text _ _ (fun c hc => h c (List.mem_of_mem_take hc))]

/-- A rune's bytes. -/
theorem ext_push {s : ByteArray} {k : Nat} (h : k < s.size) : s.extract 0 k ++ strOfNums [((s.get! k).toNat : Int)] = s.extract 0 (k + 1) := by
  have e : strOfNums [((s.get! k).toNat : Int)] = ⟨#[s.get! k]⟩ := by
    show (⟨#[UInt8.ofNat ((s.get! k).toNat : Int).toNat]⟩ : ByteArray) = _
    rw [Int.toNat_natCast, UInt8.ofNat_toNat]
  rw [e]
  apply ByteArray.ext
  rw [ByteArray.data_append, ByteArray.data_extract, ByteArray.data_extract, get_of h]
  apply Array.ext'
  simp only [Array.toList_append, Array.toList_extract, List.extract_eq_take_drop, List.drop_zero, Nat.sub_zero]
  exact (take_byte h).symm
theorem ext_get0 {s : ByteArray} {k i : Nat} (h : i < k) (hk : k ≤ s.size) : (s.extract 0 k).get! i = s.get! i := by
  have hz : (s.extract 0 k).size = k := by simp; omega
  rw [get_of (by omega), get_of (by omega)]
  have : (s.extract 0 k).data[i]'(by show i < (s.extract 0 k).size; omega) = s.data[i]'(by show i < s.size; omega) := by
    simp only [ByteArray.data_extract, Array.getElem_extract, Nat.zero_add]
  exact this
theorem beg_front {s : ByteArray} (h : 2 ≤ s.size) (hw : wholeB s = true) {k : Nat} (h1 : 1 ≤ k) (hk : k < s.size) : begB (s.extract 0 k) = true := by
  obtain ⟨e0, e1, e2, e3⟩ := (whole_iff s h).1 hw
  have hz : (s.extract 0 k).size = k := by simp; omega
  unfold begB
  rw [decide_eq_true_eq, hz, ext_get0 (by omega) (by omega)]
  have hn := need_le (s.get! 0).toNat
  refine ⟨h1, by omega, fun h2 => by rw [ext_get0 h2 (by omega)]; exact e1, fun h2 => by rw [ext_get0 h2 (by omega)]; exact e2 (by omega)⟩
theorem whole_front {s : ByteArray} (h : 2 ≤ s.size) (hw : wholeB s = true) {k : Nat} (h1 : 2 ≤ k) (hk : k < s.size) : wholeB (s.extract 0 k) = false := by
  obtain ⟨e0, e1, e2, e3⟩ := (whole_iff s h).1 hw
  have hz : (s.extract 0 k).size = k := by simp; omega
  cases hb : wholeB (s.extract 0 k)
  · rfl
  · have := ((whole_iff (s.extract 0 k) (by omega)).1 hb).1
    rw [hz, ext_get0 (by omega) (by omega)] at this
    omega
theorem run_front {s : ByteArray} (h : 2 ≤ s.size) (hw : wholeB s = true) : ∀ k, 1 ≤ k → k < s.size → runL (0, ⟨#[]⟩) (s.data.toList.take k) = ((1, s.extract 0 k), []) := by
  have h0 := (whole_iff s h).1 hw
  have hb0 : 194 ≤ (s.get! 0).toNat := by
    have := h0.1
    unfold needN at this
    revert this
    (repeat' split) <;> intro this <;> omega
  intro k
  induction k with
  | zero => intro h1; omega
  | succ k ih =>
    intro h1 hk
    rw [take_byte (by omega), runL_app]
    by_cases hk0 : k = 0
    · subst hk0
      have eb := beg_front h hw (k := 1) (Nat.le_refl _) hk
      have ee : strOfNums [((s.get! 0).toNat : Int)] = s.extract 0 1 := by
        have := ext_push (s := s) (k := 0) (by omega)
        rw [← this]
        have e9 : s.extract 0 0 = ByteArray.empty := by apply ByteArray.ext; simp
        rw [e9, ByteArray.empty_append]
      have ef : feed (0, ⟨#[]⟩) (s[0].toNat : Int) = ((1, s.extract 0 1), []) := by
        rw [feed_0, ← get_of (by omega : 0 < s.size), ground_beg (by omega) (by rw [ee]; exact eb), ee]
      simp only [List.take_zero, runL, ef, List.nil_append]
    · rw [ih (by omega) (by omega)]
      have ef : feed (1, s.extract 0 k) (s[k].toNat : Int) = ((1, s.extract 0 (k + 1)), []) := by
        rw [feed_1, ← get_of (by omega : k < s.size)]
        exact inRune_beg (ext_push (by omega)) (whole_front h hw (by omega) hk) (beg_front h hw (by omega) hk)
      simp only [runL, ef, List.nil_append]
theorem asks_whole {s : ByteArray} (h : 2 ≤ s.size) (hw : wholeB s = true) : Asks s.data.toList ⟨1, (Utf8.decode s 0).1, [], 0⟩ := by
  unfold Asks
  have h0 := (whole_iff s h).1 hw
  have e : s.data.toList = s.data.toList.take (s.size - 1) ++ [s[s.size - 1]] := by
    rw [← take_byte (by omega), show s.size - 1 + 1 = s.size by omega, List.take_of_length_le (by rw [Array.length_toList]; exact Nat.le_refl _)]
  rw [e, runL_app, run_front h hw _ (by omega) (by omega)]
  have hx : s.extract 0 (s.size - 1) ++ strOfNums [((s.get! (s.size - 1)).toNat : Int)] = s := by
    rw [ext_push (by omega), show s.size - 1 + 1 = s.size by omega]
    have := extract_whole s
    rwa [Nat.zero_add] at this
  have ef : feed (1, s.extract 0 (s.size - 1)) (s[s.size - 1].toNat : Int) = ((0, ⟨#[]⟩), [⟨1, (Utf8.decode s 0).1, [], 0⟩]) := by
    rw [feed_1, ← get_of (by omega : s.size - 1 < s.size)]
    exact inRune_whole hx hw
  simp only [runL, ef, List.nil_append, List.append_nil]
theorem asks_rune {r : Int} (hv : (0 ≤ r ∧ r < 55296) ∨ (57344 ≤ r ∧ r ≤ 1114111)) (h : 32 ≤ r) (h1 : r ≠ 127) : Asks (putS r).data.toList ⟨1, r, [], 0⟩ := by
  by_cases h2 : r < 128
  · rw [← putS_1 (by omega) h2]
    have e : (strOfNums [r]).data.toList = [UInt8.ofNat r.toNat] := rfl
    have e2 : ((UInt8.ofNat r.toNat).toNat : Int) = r := by rw [ofNat_toNat (by omega)]; omega
    rw [e]
    unfold Asks
    have ef : feed (0, ⟨#[]⟩) ((UInt8.ofNat r.toNat).toNat : Int) = ((0, ⟨#[]⟩), [⟨1, r, [], 0⟩]) := by
      rw [e2]
      rw [feed_0]
      exact ground_rune (by omega) (by omega)
    simp only [runL, ef, List.append_nil]
  · obtain ⟨hd, hz1, hz4⟩ := decode_alone hv
    have hz : 2 ≤ (putS r).size := by
      rcases put_cases r with ⟨e, b⟩ | ⟨e, b⟩ | ⟨e, b⟩ | ⟨e, b⟩ | ⟨e, b⟩
      · omega
      · omega
      all_goals (rw [e]; first | exact (show 2 ≤ 2 by decide) | exact (show 2 ≤ 3 by decide) | exact (show 2 ≤ 4 by decide))
    have hw : wholeB (putS r) = true := by
      unfold wholeB dec3
      simp only [hd, Bool.and_eq_true, decide_eq_true_eq, and_true, Bool.not_eq_true', Bool.and_eq_false_iff, beq_eq_false_iff_ne]
      right; omega
    have := asks_whole hz hw
    rw [hd] at this
    rw [show ((r.toNat : Nat) : Int) = r by omega] at this
    exact this

/-- The digits of a number. -/
def digL (n : Nat) : List UInt8 := if n < 10 then [UInt8.ofNat (48 + n)] else digL (n / 10) ++ [UInt8.ofNat (48 + n % 10)]
def pstep : Option (List Int × Int) → UInt8 → Option (List Int × Int)
  | none, _ => none
  | some (d, n), c => if c.toNat = 59 then some (d ++ [n], 0) else if 48 ≤ c.toNat ∧ c.toNat ≤ 57 then some (d, min (10 * n + ((c.toNat : Int) - 48)) 9999) else none
theorem fold_none (l : List UInt8) : l.foldl pstep none = none := by
  induction l with
  | nil => rfl
  | cons c l ih => exact ih
theorem pgo_fold (l : List UInt8) (d : List Int) (n : Int) : pgo l d n = (l.foldl pstep (some (d, n))).map fun x => x.1 ++ [x.2] := by
  induction l generalizing d n with
  | nil => rfl
  | cons c l ih =>
    simp only [pgo, List.foldl_cons, pstep]
    split
    · rw [ih]
    split
    · rw [ih]
    · rw [fold_none]; rfl
theorem fold_digL (n : Nat) (hn : n ≤ 9999) (d : List Int) : (digL n).foldl pstep (some (d, 0)) = some (d, (n : Int)) := by
  induction n using Nat.strongRecOn with
  | ind n ih =>
    unfold digL
    split
    · have e : (UInt8.ofNat (48 + n)).toNat = 48 + n := ofNat_toNat (by omega)
      simp only [List.foldl_cons, List.foldl_nil, pstep, e]
      rw [if_neg (by omega), if_pos (by omega)]
      congr 2
      omega
    · have e : (UInt8.ofNat (48 + n % 10)).toNat = 48 + n % 10 := ofNat_toNat (by omega)
      rw [List.foldl_append, ih (n / 10) (by omega) (by omega)]
      simp only [List.foldl_cons, List.foldl_nil, pstep, e]
      rw [if_neg (by omega), if_pos (by omega)]
      congr 2
      omega
theorem digL_low (n : Nat) : ∀ c ∈ digL n, 32 ≤ c.toNat ∧ c.toNat < 64 := by
  induction n using Nat.strongRecOn with
  | ind n ih =>
    unfold digL
    split
    · intro c hc
      simp only [List.mem_singleton] at hc
      subst hc
      rw [ofNat_toNat (by omega)]; omega
    · intro c hc
      rcases List.mem_append.1 hc with hc | hc
      · exact ih _ (by omega) c hc
      · simp only [List.mem_singleton] at hc
        subst hc
        rw [ofNat_toNat (by omega)]; omega
theorem digL_len (n : Nat) : 1 ≤ (digL n).length ∧ (n < 10000 → (digL n).length ≤ 4) := by
  have h1 : ∀ n, 1 ≤ (digL n).length := fun n => by unfold digL; split <;> simp
  refine ⟨h1 n, fun hn => ?_⟩
  have g0 : ∀ m, m < 10 → (digL m).length = 1 := fun m hm => by unfold digL; rw [if_pos hm]; rfl
  have g1 : ∀ m, m < 100 → (digL m).length ≤ 2 := fun m hm => by unfold digL; split; simp; rw [List.length_append, g0 _ (by omega)]; simp
  have g2 : ∀ m, m < 1000 → (digL m).length ≤ 3 := fun m hm => by unfold digL; split; simp; rw [List.length_append]; have := g1 (m / 10) (by omega); simp; omega
  unfold digL; split; simp; rw [List.length_append]; have := g2 (n / 10) (by omega); simp; omega
/-- Some numbers' text. -/
def ptk (l : List Nat) : Nat → List UInt8
  | 0 => []
  | k + 1 => ptk l k ++ (if 0 < k then [59] else []) ++ digL (l.getD k 0)
theorem ptk_low (l : List Nat) (k : Nat) : ∀ c ∈ ptk l k, 32 ≤ c.toNat ∧ c.toNat < 64 := by
  induction k with
  | zero => intro c hc; simp [ptk] at hc
  | succ k ih =>
    intro c hc
    simp only [ptk, List.mem_append] at hc
    rcases hc with (hc | hc) | hc
    · exact ih c hc
    · split at hc
      · simp only [List.mem_singleton] at hc; subst hc; decide
      · simp at hc
    · exact digL_low _ c hc
theorem ptk_len (l : List Nat) (hl : ∀ n ∈ l, n ≤ 9999) (k : Nat) : (ptk l k).length ≤ 5 * k := by
  induction k with
  | zero => simp [ptk]
  | succ k ih =>
    simp only [ptk, List.length_append]
    have h1 : l.getD k 0 < 10000 := by
      rw [List.getD_eq_getElem?_getD]
      cases h : l[k]? with
      | none => simp
      | some n => simp; have := hl n (List.mem_of_getElem? h); omega
    have := (digL_len (l.getD k 0)).2 h1
    have h2 : (if 0 < k then ([59] : List UInt8) else []).length ≤ 1 := by split <;> simp
    omega
theorem fold_ptk (l : List Nat) (hl : ∀ n ∈ l, n ≤ 9999) (k : Nat) (hk : k < l.length) : (ptk l (k + 1)).foldl pstep (some ([], 0)) = some ((l.take k).map (fun n : Nat => (n : Int)), ((l[k] : Nat) : Int)) := by
  induction k with
  | zero =>
    have e : ptk l 1 = digL (l.getD 0 0) := by simp [ptk]
    rw [e, fold_digL _ (by rw [List.getD_eq_getElem?_getD, List.getElem?_eq_getElem hk]; exact hl _ (List.getElem_mem hk))]
    simp [List.getD_eq_getElem?_getD, List.getElem?_eq_getElem hk]
  | succ k ih =>
    have e : ptk l (k + 1 + 1) = ptk l (k + 1) ++ [59] ++ digL (l.getD (k + 1) 0) := by
      show ptk l (k + 1) ++ (if 0 < k + 1 then [59] else []) ++ digL (l.getD (k + 1) 0) = _
      rw [if_pos (by omega)]
    rw [e, List.foldl_append, List.foldl_append, ih (by omega)]
    simp only [List.foldl_cons, List.foldl_nil, pstep]
    rw [if_pos (by decide), fold_digL _ (by rw [List.getD_eq_getElem?_getD, List.getElem?_eq_getElem hk]; exact hl _ (List.getElem_mem hk))]
    rw [List.getD_eq_getElem?_getD, List.getElem?_eq_getElem hk]
    rw [List.take_succ_eq_append_getElem (by omega : k < l.length)]
    simp only [List.map_append, List.map_cons, List.map_nil, Option.getD_some]
theorem params_ptk (l : List Nat) (hl : ∀ n ∈ l, n ≤ 9999) (h16 : l.length ≤ 16) : params ⟨(ptk l l.length).toArray⟩ = some (l.map fun n : Nat => (n : Int)) := by
  unfold params
  cases hn : l.length with
  | zero => obtain rfl := List.length_eq_zero_iff.1 hn; rfl
  | succ k =>
    have hz : 1 ≤ (ptk l (k + 1)).length := by simp only [ptk, List.length_append]; have := (digL_len (l.getD k 0)).1; omega
    rw [if_neg (by show ¬ (ptk l (k + 1)).toArray.size = 0; simp; intro h; rw [h] at hz; simp at hz)]
    show (pgo (ptk l (k + 1)).toArray.toList [] 0).bind few = _
    rw [List.toList_toArray, pgo_fold, fold_ptk l hl k (by omega)]
    simp only [Option.map_some, Option.bind_some, few]
    have e : (l.take k).map (fun n : Nat => (n : Int)) ++ [((l[k]'(by omega) : Nat) : Int)] = l.map fun n : Nat => (n : Int) := by
      have : l = l.take k ++ [l[k]'(by omega)] := by
        rw [← List.take_succ_eq_append_getElem (by omega : k < l.length), List.take_of_length_le (by omega)]
      conv => rhs; rw [this]
      rw [List.map_append]; rfl
    rw [e, if_pos (by simp; omega)]
end Go.Proofs.YtmheleifjpfciaaDoor
