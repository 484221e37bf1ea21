/- Plain: what the bytes of parts ask for. No program in sight. Contract of limnerref01.Starts. TermText, in plain Lean: runes that are shown, one behind the other, and how they stand in the rows. -/
import Derived.Test.YtmemdhmjhckmaaaDoorZ28
import Derived.Test.YtmemdhmjhckmaaaDoorZ13
import Derived.Test.YtmemdhmjhckmaaaDoorZ9
import Derived.Laws.OwnMore
import Derived.Maps.AppendAt
import Derived.OwnWalk
import Derived.Test.YtmemdhmjhckmaaaDoorZ27
import Derived.Test.YtmemdhmjhckmaaaDoorZ24
namespace Go.Proofs.YtmemdhmjhckmaaaDoor

def runL : Nat × ByteArray → List UInt8 → (Nat × ByteArray) × List Ac
  | p, [] => (p, [])
  | p, c :: l => ((runL (feed p c.toNat).1 l).1, (feed p c.toNat).2 ++ (runL (feed p c.toNat).1 l).2)
theorem runL_app (p : Nat × ByteArray) (l m : List UInt8) : runL p (l ++ m) = ((runL (runL p l).1 m).1, (runL p l).2 ++ (runL (runL p l).1 m).2) := by
  induction l generalizing p with
  | nil => simp [runL]
  | cons c l ih => simp only [List.cons_append, runL]; rw [ih]; simp
theorem outA_run (s : ByteArray) (k : Nat) (h : k ≤ s.size) : runL (0, ⟨#[]⟩) (s.data.toList.take k) = (stA s k, outA s k) := by
  induction k with
  | zero => rfl
  | succ k ih =>
    rw [take_byte (by omega), runL_app, ih (by omega)]
    simp only [runL, stA, outA, List.append_nil]
    rw [get_of (by omega : k < s.size)]
theorem outA_all (s : ByteArray) : outA s s.size = (runL (0, ⟨#[]⟩) s.data.toList).2 := by
  have h := outA_run s s.size (Nat.le_refl _)
  rw [List.take_of_length_le (by rw [Array.length_toList]; exact Nat.le_refl _)] at h
  rw [h]
/-- These bytes ask for just this, from the beginning, and lead back there. -/
def Asks (l : List UInt8) (a : Ac) : Prop := runL (0, ⟨#[]⟩) l = ((0, ⟨#[]⟩), [a])
theorem asks_ctl {c : UInt8} (h : c.toNat ≠ 27) (h1 : c.toNat < 32 ∨ c.toNat = 127) : Asks [c] ⟨2, c.toNat, [], 0⟩ := by
  unfold Asks
  simp only [runL, feed, if_true]
  rw [ground_ctl (by omega) (by omega)]
  rfl
theorem asks_esc {c : UInt8} (h : 48 ≤ c.toNat) (h1 : c.toNat < 127) (h2 : c.toNat ≠ 91) : Asks [27, c] ⟨4, 0, [], c.toNat⟩ := by
  unfold Asks
  have e1 : feed (0, ⟨#[]⟩) ((27 : UInt8).toNat : Int) = ((2, ⟨#[]⟩), []) := rfl
  have e2 : feed (2, ⟨#[]⟩) (c.toNat : Int) = ((0, ⟨#[]⟩), [⟨4, 0, [], c.toNat⟩]) := by
    rw [feed_2]
    exact seq2_esc (by omega) (by omega) (by omega)
  simp only [runL, e1, e2, List.nil_append, List.append_nil]
theorem run_text (t : ByteArray) (T : List UInt8) (h : ∀ c ∈ T, 32 ≤ c.toNat ∧ c.toNat < 64) : runL (3, t) T = ((3, t ++ ⟨T.toArray⟩), []) := by
  induction T generalizing t with
  | nil =>
    show ((3, t), []) = _
    rw [show (⟨([] : List UInt8).toArray⟩ : ByteArray) = ByteArray.empty from rfl, ByteArray.append_empty]
  | cons c l ih =>
    have hc := h c (by simp)
    have e : feed (3, t) (c.toNat : Int) = ((3, t ++ strOfNums [(c.toNat : Int)]), []) := by
      rw [feed_3]
      exact seq3_more (by omega) (by omega)
    simp only [runL, e, List.nil_append]
    rw [ih _ (fun c hc => h c (by simp [hc]))]
    have e2 : t ++ strOfNums [(c.toNat : Int)] ++ ⟨l.toArray⟩ = t ++ ⟨(c :: l).toArray⟩ := by
      rw [ByteArray.append_assoc]
      congr 1
      show (⟨#[UInt8.ofNat (c.toNat : Int).toNat]⟩ : ByteArray) ++ ⟨l.toArray⟩ = _
      rw [Int.toNat_natCast, UInt8.ofNat_toNat]
      apply ByteArray.ext
      simp [ByteArray.data_append]
    rw [e2]
theorem asks_csi {T : List UInt8} {l : List Int} {c : UInt8} (h : ∀ c ∈ T, 32 ≤ c.toNat ∧ c.toNat < 64) (hp : params ⟨T.toArray⟩ = some l) (h1 : 64 ≤ c.toNat) (h2 : c.toNat < 127) : Asks ([27, 91] ++ T ++ [c]) ⟨3, 0, l, c.toNat⟩ := by
  unfold Asks
  have e1 : runL (0, ⟨#[]⟩) [27, 91] = ((3, ⟨#[]⟩), []) := rfl
  rw [runL_app, runL_app, e1]
  simp only
  rw [run_text _ _ h]
  have e0 : (⟨#[]⟩ ++ ⟨T.toArray⟩ : ByteArray) = ⟨T.toArray⟩ := ByteArray.empty_append
  rw [e0]
  have e2 : feed (3, ⟨T.toArray⟩) (c.toNat : Int) = ((0, ⟨#[]⟩), [⟨3, 0, l, c.toNat⟩]) := by
    rw [feed_3]
    exact seq3_ok (by omega) (by omega) hp
  simp only [runL, e2, List.nil_append, List.append_nil]
/-- All that stands ahead of the last byte asks for nothing, and stands within. -/
theorem csi_within {T : List UInt8} (h : ∀ c ∈ T, 32 ≤ c.toNat ∧ c.toNat < 64) {k : Nat} (h1 : 1 ≤ k) (hk : k ≤ T.length + 2) : ∃ a t, (a = 2 ∨ a = 3) ∧ runL (0, ⟨#[]⟩) (([27, 91] ++ T).take k) = ((a, t), []) := by
  by_cases hk1 : k = 1
  · subst hk1; exact ⟨2, _, .inl rfl, rfl⟩
  · refine ⟨3, ⟨#[]⟩ ++ ⟨(T.take (k - 2)).toArray⟩, .inr rfl, ?_⟩
    have e : ([27, 91] ++ T).take k = [27, 91] ++ T.take (k - 2) := by
      rw [List.take_append, List.take_of_length_le (by simp; omega)]; rfl
    have e1 : runL (0, ⟨#[]⟩) [27, 91] = ((3, ⟨#[]⟩), []) := rfl
    rw [e, runL_app, e1]
    simp only [List.nil_append]
    rw [run_text _ _ (fun c hc => h c (List.mem_of_mem_take hc))]

/-- A rune's bytes. -/
theorem run_front {s : ByteArray} (h : 2 ≤ s.size) (hw : wholeB s = true) : ∀ k, 1 ≤ k → k < s.size → runL (0, ⟨#[]⟩) (s.data.toList.take k) = ((1, s.extract 0 k), []) := by
  have h0 := (whole_iff s h).1 hw
  have hb0 : 194 ≤ (s.get! 0).toNat := by
    have := h0.1
    unfold needN at this
    revert this
    (repeat' split) <;> intro this <;> omega
  intro k
  induction k with
  | zero => intro h1; omega
  | succ k ih =>
    intro h1 hk
    rw [take_byte (by omega), runL_app]
    by_cases hk0 : k = 0
    · subst hk0
      have eb := beg_front h hw (k := 1) (Nat.le_refl _) hk
      have ee : strOfNums [((s.get! 0).toNat : Int)] = s.extract 0 1 := by
        have := ext_push (s := s) (k := 0) (by omega)
        rw [← this]
        have e9 : s.extract 0 0 = ByteArray.empty := by apply ByteArray.ext; simp
        rw [e9, ByteArray.empty_append]
      have ef : feed (0, ⟨#[]⟩) (s[0].toNat : Int) = ((1, s.extract 0 1), []) := by
        rw [feed_0, ← get_of (by omega : 0 < s.size), ground_beg (by omega) (by rw [ee]; exact eb), ee]
      simp only [List.take_zero, runL, ef, List.nil_append]
    · rw [ih (by omega) (by omega)]
      have ef : feed (1, s.extract 0 k) (s[k].toNat : Int) = ((1, s.extract 0 (k + 1)), []) := by
        rw [feed_1, ← get_of (by omega : k < s.size)]
        exact inRune_beg (ext_push (by omega)) (whole_front h hw (by omega) hk) (beg_front h hw (by omega) hk)
      simp only [runL, ef, List.nil_append]
theorem asks_whole {s : ByteArray} (h : 2 ≤ s.size) (hw : wholeB s = true) : Asks s.data.toList ⟨1, (Utf8.decode s 0).1, [], 0⟩ := by
  unfold Asks
  have h0 := (whole_iff s h).1 hw
  have e : s.data.toList = s.data.toList.take (s.size - 1) ++ [s[s.size - 1]] := by
    rw [← take_byte (by omega), show s.size - 1 + 1 = s.size by omega, List.take_of_length_le (by rw [Array.length_toList]; exact Nat.le_refl _)]
  rw [e, runL_app, run_front h hw _ (by omega) (by omega)]
  have hx : s.extract 0 (s.size - 1) ++ strOfNums [((s.get! (s.size - 1)).toNat : Int)] = s := by
    rw [ext_push (by omega), show s.size - 1 + 1 = s.size by omega]
    have := extract_whole s
    rwa [Nat.zero_add] at this
  have ef : feed (1, s.extract 0 (s.size - 1)) (s[s.size - 1].toNat : Int) = ((0, ⟨#[]⟩), [⟨1, (Utf8.decode s 0).1, [], 0⟩]) := by
    rw [feed_1, ← get_of (by omega : s.size - 1 < s.size)]
    exact inRune_whole hx hw
  simp only [runL, ef, List.nil_append, List.append_nil]
theorem asks_rune {r : Int} (hv : (0 ≤ r ∧ r < 55296) ∨ (57344 ≤ r ∧ r ≤ 1114111)) (h : 32 ≤ r) (h1 : r ≠ 127) : Asks (putS r).data.toList ⟨1, r, [], 0⟩ := by
  by_cases h2 : r < 128
  · rw [← putS_1 (by omega) h2]
    have e : (strOfNums [r]).data.toList = [UInt8.ofNat r.toNat] := rfl
    have e2 : ((UInt8.ofNat r.toNat).toNat : Int) = r := by rw [ofNat_toNat (by omega)]; omega
    rw [e]
    unfold Asks
    have ef : feed (0, ⟨#[]⟩) ((UInt8.ofNat r.toNat).toNat : Int) = ((0, ⟨#[]⟩), [⟨1, r, [], 0⟩]) := by
      rw [e2]
      rw [feed_0]
      exact ground_rune (by omega) (by omega)
    simp only [runL, ef, List.append_nil]
  · obtain ⟨hd, hz1, hz4⟩ := decode_alone hv
    have hz : 2 ≤ (putS r).size := by
      rcases put_cases r with ⟨e, b⟩ | ⟨e, b⟩ | ⟨e, b⟩ | ⟨e, b⟩ | ⟨e, b⟩
      · omega
      · omega
      all_goals (rw [e]; first | exact (show 2 ≤ 2 by decide) | exact (show 2 ≤ 3 by decide) | exact (show 2 ≤ 4 by decide))
    have hw : wholeB (putS r) = true := by
      unfold wholeB dec3
      simp only [hd, Bool.and_eq_true, decide_eq_true_eq, and_true, Bool.not_eq_true', Bool.and_eq_false_iff, beq_eq_false_iff_ne]
      right; omega
    have := asks_whole hz hw
    rw [hd] at this
    rw [show ((r.toNat : Nat) : Int) = r by omega] at this
    exact this

/-- The digits of a number. -/
def digL (n : Nat) : List UInt8 := if n < 10 then [UInt8.ofNat (48 + n)] else digL (n / 10) ++ [UInt8.ofNat (48 + n % 10)]
def pstep : Option (List Int × Int) → UInt8 → Option (List Int × Int)
  | none, _ => none
  | some (d, n), c => if c.toNat = 59 then some (d ++ [n], 0) else if 48 ≤ c.toNat ∧ c.toNat ≤ 57 then some (d, min (10 * n + ((c.toNat : Int) - 48)) 9999) else none
theorem fold_none (l : List UInt8) : l.foldl pstep none = none := by
  induction l with
  | nil => rfl
  | cons c l ih => exact ih
theorem pgo_fold (l : List UInt8) (d : List Int) (n : Int) : pgo l d n = (l.foldl pstep (some (d, n))).map fun x => x.1 ++ [x.2] := by
  induction l generalizing d n with
  | nil => rfl
  | cons c l ih =>
    simp only [pgo, List.foldl_cons, pstep]
    split
    · rw [ih]
    split
    · rw [ih]
    · rw [fold_none]; rfl
theorem fold_digL (n : Nat) (hn : n ≤ 9999) (d : List Int) : (digL n).foldl pstep (some (d, 0)) = some (d, (n : Int)) := by
  induction n using Nat.strongRecOn with
  | ind n ih =>
    unfold digL
    split
    · have e : (UInt8.ofNat (48 + n)).toNat = 48 + n := ofNat_toNat (by omega)
      simp only [List.foldl_cons, List.foldl_nil, pstep, e]
      rw [if_neg (by omega), if_pos (by omega)]
      congr 2
      omega
    · have e : (UInt8.ofNat (48 + n % 10)).toNat = 48 + n % 10 := ofNat_toNat (by omega)
      rw [List.foldl_append, ih (n / 10) (by omega) (by omega)]
      simp only [List.foldl_cons, List.foldl_nil, pstep, e]
      rw [if_neg (by omega), if_pos (by omega)]
      congr 2
      omega
theorem digL_low (n : Nat) : ∀ c ∈ digL n, 32 ≤ c.toNat ∧ c.toNat < 64 := by
  induction n using Nat.strongRecOn with
  | ind n ih =>
    unfold digL
    split
    · intro c hc
      simp only [List.mem_singleton] at hc
      subst hc
      rw [ofNat_toNat (by omega)]; omega
    · intro c hc
      rcases List.mem_append.1 hc with hc | hc
      · exact ih _ (by omega) c hc
      · simp only [List.mem_singleton] at hc
        subst hc
        rw [ofNat_toNat (by omega)]; omega
theorem digL_len (n : Nat) : 1 ≤ (digL n).length ∧ (n < 10000 → (digL n).length ≤ 4) := by
  have h1 : ∀ n, 1 ≤ (digL n).length := fun n => by unfold digL; split <;> simp
  refine ⟨h1 n, fun hn => ?_⟩
  have g0 : ∀ m, m < 10 → (digL m).length = 1 := fun m hm => by unfold digL; rw [if_pos hm]; rfl
  have g1 : ∀ m, m < 100 → (digL m).length ≤ 2 := fun m hm => by unfold digL; split; simp; rw [List.length_append, g0 _ (by omega)]; simp
  have g2 : ∀ m, m < 1000 → (digL m).length ≤ 3 := fun m hm => by unfold digL; split; simp; rw [List.length_append]; have := g1 (m / 10) (by omega); simp; omega
  unfold digL; split; simp; rw [List.length_append]; have := g2 (n / 10) (by omega); simp; omega
/-- Some numbers' text. -/
def ptk (l : List Nat) : Nat → List UInt8
  | 0 => []
  | k + 1 => ptk l k ++ (if 0 < k then [59] else []) ++ digL (l.getD k 0)
theorem ptk_low (l : List Nat) (k : Nat) : ∀ c ∈ ptk l k, 32 ≤ c.toNat ∧ c.toNat < 64 := by
  induction k with
  | zero => intro c hc; simp [ptk] at hc
  | succ k ih =>
    intro c hc
    simp only [ptk, List.mem_append] at hc
    rcases hc with (hc | hc) | hc
    · exact ih c hc
    · split at hc
      · simp only [List.mem_singleton] at hc; subst hc; decide
      · simp at hc
    · exact digL_low _ c hc
theorem ptk_len (l : List Nat) (hl : ∀ n ∈ l, n ≤ 9999) (k : Nat) : (ptk l k).length ≤ 5 * k := by
  induction k with
  | zero => simp [ptk]
  | succ k ih =>
    simp only [ptk, List.length_append]
    have h1 : l.getD k 0 < 10000 := by
      rw [List.getD_eq_getElem?_getD]
      cases h : l[k]? with
      | none => simp
      | some n => simp; have := hl n (List.mem_of_getElem? h); omega
    have := (digL_len (l.getD k 0)).2 h1
    have h2 : (if 0 < k then ([59] : List UInt8) else []).length ≤ 1 := by split <;> simp
    omega
theorem fold_ptk (l : List Nat) (hl : ∀ n ∈ l, n ≤ 9999) (k : Nat) (hk : k < l.length) : (ptk l (k + 1)).foldl pstep (some ([], 0)) = some ((l.take k).map (fun n : Nat => (n : Int)), ((l[k] : Nat) : Int)) := by
  induction k with
  | zero =>
    have e : ptk l 1 = digL (l.getD 0 0) := by simp [ptk]
    rw [e, fold_digL _ (by rw [List.getD_eq_getElem?_getD, List.getElem?_eq_getElem hk]; exact hl _ (List.getElem_mem hk))]
    simp [List.getD_eq_getElem?_getD, List.getElem?_eq_getElem hk]
  | succ k ih =>
    have e : ptk l (k + 1 + 1) = ptk l (k + 1) ++ [59] ++ digL (l.getD (k + 1) 0) := by
      show ptk l (k + 1) ++ (if 0 < k + 1 then [59] else []) ++ digL (l.getD (k + 1) 0) = _
      rw [if_pos (by omega)]
    rw [e, List.foldl_append, List.foldl_append, ih (by omega)]
    simp only [List.foldl_cons, List.foldl_nil, pstep]
    rw [if_pos (by decide), fold_digL _ (by rw [List.getD_eq_getElem?_getD, List.getElem?_eq_getElem hk]; exact hl _ (List.getElem_mem hk))]
    rw [List.getD_eq_getElem?_getD, List.getElem?_eq_getElem hk]
    rw [List.take_succ_eq_append_getElem (by omega : k < l.length)]
    simp only [List.map_append, List.map_cons, List.map_nil, Option.getD_some]
theorem params_ptk (l : List Nat) (hl : ∀ n ∈ l, n ≤ 9999) (h16 : l.length ≤ 16) : params ⟨(ptk l l.length).toArray⟩ = some (l.map fun n : Nat => (n : Int)) := by
  unfold params
  cases hn : l.length with
  | zero => obtain rfl := List.length_eq_zero_iff.1 hn; rfl
  | succ k =>
    have hz : 1 ≤ (ptk l (k + 1)).length := by simp only [ptk, List.length_append]; have := (digL_len (l.getD k 0)).1; omega
    rw [if_neg (by show ¬ (ptk l (k + 1)).toArray.size = 0; simp; intro h; rw [h] at hz; simp at hz)]
    show (pgo (ptk l (k + 1)).toArray.toList [] 0).bind few = _
    rw [List.toList_toArray, pgo_fold, fold_ptk l hl k (by omega)]
    simp only [Option.map_some, Option.bind_some, few]
    have e : (l.take k).map (fun n : Nat => (n : Int)) ++ [((l[k]'(by omega) : Nat) : Int)] = l.map fun n : Nat => (n : Int) := by
      have : l = l.take k ++ [l[k]'(by omega)] := by
        rw [← List.take_succ_eq_append_getElem (by omega : k < l.length), List.take_of_length_le (by omega)]
      conv => rhs; rw [this]
      rw [List.map_append]; rfl
    rw [e, if_pos (by simp; omega)]
end Go.Proofs.YtmemdhmjhckmaaaDoor
namespace Go.Proofs.YtmemdhmjhckmaaaDoor
open Go.RowKit

/-- Where runes stand, and bytes that are of none, from a place on. -/
def startsFrom (s : ByteArray) : Nat → Nat → List Nat
  | 0, _ => []
  | f + 1, pos => if pos < s.size then pos :: startsFrom s f (pos + (Utf8.decode s pos).2) else []
def starts (s : ByteArray) : List Nat := startsFrom s s.size 0
theorem startsFrom_end {s : ByteArray} {f pos : Nat} (h : ¬ pos < s.size) : startsFrom s f pos = [] := by
  cases f with
  | zero => rfl
  | succ f => simp only [startsFrom]; rw [if_neg h]
theorem startsFrom_go {s : ByteArray} {f pos : Nat} (h : pos < s.size) : startsFrom s (f + 1) pos = pos :: startsFrom s f (pos + (Utf8.decode s pos).2) := by
  simp only [startsFrom]; rw [if_pos h]
theorem starts_step {s : ByteArray} {f pos : Nat} {L T : List Nat} (hp : pos < s.size) (h : L ++ startsFrom s f pos = T) (hf : s.size ≤ pos + f) : L ++ [pos] ++ startsFrom s (f - 1) (pos + (Utf8.decode s pos).2) = T := by
  obtain ⟨f, rfl⟩ : ∃ g, f = g + 1 := ⟨f - 1, by omega⟩
  rw [startsFrom_go hp] at h
  simpa using h
theorem starts_lt (s : ByteArray) : ∀ f pos, ∀ k ∈ startsFrom s f pos, pos ≤ k ∧ k < s.size
  | 0, _, k, h => by simp [startsFrom] at h
  | f + 1, pos, k, h => by
    simp only [startsFrom] at h
    split at h
    · rename_i hp
      rcases List.mem_cons.1 h with rfl | h
      · exact ⟨Nat.le_refl _, hp⟩
      · have := starts_lt s f _ k h; omega
    · cases h
theorem startsFrom_len (s : ByteArray) : ∀ f pos, (startsFrom s f pos).length ≤ f
  | 0, _ => by simp [startsFrom]
  | f + 1, pos => by
    simp only [startsFrom]
    split
    · have := startsFrom_len s f (pos + (Utf8.decode s pos).2); simp only [List.length_cons]; omega
    · simp
theorem starts_len (s : ByteArray) : (starts s).length ≤ s.size := startsFrom_len s _ _

/-- A list of places as cells. -/
def nats (L : List Nat) : List Value := L.map fun (k : Nat) => Value.int .i64 (k : Int)
theorem nats_snoc (L : List Nat) (k : Nat) : nats (L ++ [k]) = nats L ++ [.int .i64 (k : Int)] := by simp [nats]
theorem info_int : (Tryd.prog.info? 3).map (fun i => (i.zero, i.size, i.bytes)) = some (some (.int .i64 0), 1, 8) := by kernel_rfl
theorem own_form {w : World} {B : Nat} {e : TypeId} {k : Nat} {v : Value} {n : Nat} {xs : List Value} (h : w.ownsRow B e k v n xs) : ∃ A c, v = .slice A n c := by
  rcases h.2 with ⟨rfl, rfl⟩ | ⟨g, cap, cur, rfl, _⟩
  · exact ⟨_, _, rfl⟩
  · exact ⟨_, _, rfl⟩
theorem own_below {w W : World} {B : Nat} {e : TypeId} {k : Nat} {v : Value} {n : Nat} {xs : List Value} (h : w.ownsRow B e k v n xs) (hb : Below w.heap.size w W) : W.ownsRow B e k v n xs := by
  refine ⟨h.1, ?_⟩
  rcases h.2 with h0 | ⟨g, cap, cur, rfl, hg, hh, h1, h2, h3, h4⟩
  · exact .inl h0
  · exact .inr ⟨g, cap, cur, rfl, hg, (hb.block g (Array.getElem?_eq_some_iff.1 hh).1).trans hh, h1, h2, h3, h4⟩

/-- What Starts leaves. -/
def StartsPost (s : ByteArray) (w : World) (e : Ending) (w' : World) : Prop :=
  ∃ A c, e = .returned (.slice A (starts s).length c) ∧ w'.ownsRow w.heap.size 3 1 (.slice A (starts s).length c) (starts s).length (nats (starts s)) ∧ Below w.heap.size w w'

theorem starts_end {s : ByteArray} {w wr : World} {v : Value} {L : List Nat} {f pos : Nat} (hp : ¬ pos < s.size) (h : L ++ startsFrom s f pos = starts s) (hown : wr.ownsRow w.heap.size 3 1 v L.length (nats L)) (hB : Below w.heap.size w wr) : StartsPost s w (.returned v) wr := by
  rw [startsFrom_end hp, List.append_nil] at h
  subst h
  obtain ⟨A, c, rfl⟩ := own_form hown
  exact ⟨A, c, rfl, hown, hB⟩

/-- limnerref01.Next at a place that lies in the text. -/
theorem rnext_u (s : ByteArray) (i : Nat) (w : World) (hs : s.size ≤ 1048576) (hi : i < s.size) :
    Calls Tryd.prog 58 #[.string s, .int .i64 i] w fun e w' => e = .returned (.tuple #[.int .i32 (Utf8.decode s i).1, .int .i64 (Utf8.decode s i).2, .bool (dec3 s i).2.2]) ∧ Below w.heap.size w w' :=
  (rnext_any s i w hs hi).mono fun e w' ⟨he, hw⟩ => ⟨by rw [he, nxt_dec s i hi]; rfl, hw⟩
theorem starts_rel {w wr w1 w2 : World} {v v' : Value} {L : List Nat} {pos : Nat} {o : Obj} {t : TypeId} (hB : Below w.heap.size w wr) (hbs : w.heap.size ≤ wr.heap.size) (hown : wr.ownsRow w.heap.size t 1 v L.length (nats L))
    (hown1 : w1.ownsRow w.heap.size t 1 v' (L.length + 1) (nats L ++ [.int .i64 (pos : Int)])) (hgrow : (wr.alloc o).grownBy w1 v.ownBlock) (hb2 : Below w1.heap.size w1 w2) :
    w2.ownsRow w.heap.size t 1 v' (L ++ [pos]).length (nats (L ++ [pos])) ∧ Below w.heap.size w w2 := by
  have h1 : Below w.heap.size w w1 := (hB.alloc hbs o).grown hgrow (by simp; omega) (fun k e => (hown.lt k e).1)
  exact ⟨by rw [nats_snoc, List.length_append]; exact own_below hown1 hb2, h1.trans (hb2.mono h1.size)⟩

/-- The slice at A reads as the places L. -/
def NatsAt (A : Option Addr) (L : List Nat) (w : World) : Prop := ∀ k, k < L.length → ∃ g, A = some ⟨g, 0, none⟩ ∧ w.cell? ⟨g, k, none⟩ = some (.int .i64 ((L[k]?.getD 0 : Nat) : Int))
theorem NatsAt.below {A : Option Addr} {L : List Nat} {w W : World} (h : NatsAt A L w) (hb : Below w.heap.size w W) : NatsAt A L W := fun k hk => by
  obtain ⟨g, e, hc⟩ := h k hk
  exact ⟨g, e, (hb.cell (p := ⟨g, k, none⟩) (World.block_lt_of_cell? _ _ hc)).trans hc⟩
theorem NatsAt.of_own {A : Option Addr} {c : Nat} {L : List Nat} {w : World} {B : Nat} {t : TypeId} (h : w.ownsRow B t 1 (.slice A L.length c) L.length (nats L)) : NatsAt A L w := fun k hk => by
  rcases h.2 with ⟨_, h0⟩ | ⟨g, cap, cur, e, _⟩
  · omega
  · injection e with e1 e2 e3
    subst e1
    refine ⟨g, rfl, ?_⟩
    rw [h.cellAt k (by omega)]
    simp [nats, hk]
end Go.Proofs.YtmemdhmjhckmaaaDoor
namespace Go.Proofs.YtmemdhmjhckmaaaDoor
open Go.RowKit
set_option maxRecDepth 100000

def pat (t : Tm) (q : Nat × ByteArray) : Tm := { t with p := q }
theorem pat_act (t : Tm) (q : Nat × ByteArray) (a : Ac) : actM (pat t q) a = pat (actM t a) q := by
  have hf : ∀ (t : Tm) q, feedM (pat t q) = pat (feedM t) q := fun t q => by
    unfold feedM pat
    dsimp only
    split <;> rfl
  have hc : ∀ (t : Tm) q (n : Int) (f k : Nat), clearM (pat t q) n f k = pat (clearM t n f k) q := fun t q n f k => by
    unfold clearM pat
    dsimp only
    (repeat' split) <;> rfl
  unfold actM
  split
  · unfold showM
    rw [show wrapsB (pat t q) (widN (shown a.r)) = wrapsB t (widN (shown a.r)) from rfl]
    split
    · have : wrapM (pat t q) = pat (wrapM t) q := hf { t with col := 0, waits := false } q
      rw [this]; rfl
    · rfl
  split
  · unfold ctlM
    split
    · rfl
    split
    · rfl
    split
    · rfl
    split
    · show ({ feedM (pat t q) with waits := false } : Tm) = _
      rw [hf]; rfl
    · rfl
  split
  · unfold seqM
    dsimp only
    split
    · rfl
    split
    · rfl
    split
    · rfl
    split
    · rfl
    split
    · rfl
    split
    · show ({ clearM (pat t q) _ _ _ with waits := false } : Tm) = _
      rw [hc]; rfl
    split
    · show ({ clearM (pat t q) _ _ _ with waits := false } : Tm) = _
      rw [hc]; rfl
    split
    · rfl
    · rfl
  · rfl
theorem pat_acts (q : Nat × ByteArray) : ∀ (L : List Ac) (t : Tm), L.foldl actM (pat t q) = pat (L.foldl actM t) q
  | [], t => rfl
  | a :: L, t => by rw [List.foldl_cons, pat_act, pat_acts q L, List.foldl_cons]
def writeB (t : Tm) (l : List UInt8) : Tm := l.foldl (fun t c => stepM t (c.toNat : Int)) t
theorem write_list (t : Tm) (s : ByteArray) : ∀ k, k ≤ s.size → writeTo t s k = writeB t (s.data.toList.take k)
  | 0, _ => by simp [writeB, writeTo]
  | k + 1, h => by
    have hk : k < s.data.toList.length := by rw [Array.length_toList]; exact h
    rw [writeTo, write_list t s k (by omega), List.take_add_one, List.getElem?_eq_getElem hk]
    unfold writeB
    rw [List.foldl_append]
    have : s.get! k = s.data.toList[k] := by rw [get_at s k (by omega)]; rfl
    rw [this]
    rfl
theorem write_run : ∀ (l : List UInt8) (t : Tm), writeB t l = pat ((runL t.p l).2.foldl actM t) (runL t.p l).1
  | [], t => rfl
  | c :: l, t => by
    have hs : stepM t (c.toNat : Int) = pat ((feed t.p c.toNat).2.foldl actM t) (feed t.p c.toNat).1 := by
      unfold stepM
      exact pat_acts _ _ t
    show writeB (stepM t (c.toNat : Int)) l = _
    rw [write_run l, hs]
    show pat ((runL (feed t.p c.toNat).1 l).2.foldl actM (pat _ _)) _ = _
    rw [pat_acts, runL, List.foldl_append]
    rfl
theorem write_asks {t : Tm} (hp : t.p = (0, ⟨#[]⟩)) {s : ByteArray} {a : Ac} (h : Asks s.data.toList a) : writeM t s = actM t a := by
  unfold writeM
  rw [write_list t s _ (Nat.le_refl _), List.take_of_length_le (by simp), write_run, hp, h]
  show pat (actM t a) _ = _
  unfold pat
  rw [← hp, ← act_p t a]
/-- Rows that are done, the one that is under way, cells of it, the text so far. -/
structure Tx where
  D : List ByteArray
  c : ByteArray
  u : Nat
  x : ByteArray
def tx0 : Tx := ⟨[], ⟨#[]⟩, 0, ⟨#[]⟩⟩
def txPut (C : Nat) (q : Tx) (r : Int) : Tx :=
  if q.u + widN r ≤ C then ⟨q.D, q.c ++ putS r, q.u + widN r, q.x ++ putS r⟩ else ⟨q.D ++ [q.c], putS r, widN r, q.x ++ putS r⟩
def txAt (C : Nat) (s : ByteArray) (q : Tx) (k : Nat) : Tx :=
  if (dec3 s k).2.2 = true ∧ cells (dec3 s k).1 ≠ 0 ∧ q.D.length + 1 ≠ 40 then txPut C q (dec3 s k).1 else q
def txTo (C : Nat) (s : ByteArray) (k : Nat) : Tx := ((starts s).take k).foldl (txAt C s) tx0
theorem txTo_step {C : Nat} {s : ByteArray} {k i : Nat} (h : (starts s)[k]? = some i) : txTo C s (k + 1) = txAt C s (txTo C s k) i := by
  unfold txTo
  rw [List.take_add_one, h, List.foldl_append]
  rfl
structure TxI (C : Nat) (D : List ByteArray) (c : ByteArray) (u : Nat) (t : Tm) : Prop where
  i : Inv t
  p : t.p = (0, ⟨#[]⟩)
  rows : t.rows = 40
  cols : t.cols = C
  row : t.row = D.length
  cur : (t.waits = true ∧ u = C ∧ t.col + 1 = C) ∨ (t.waits = false ∧ t.col = u ∧ u < C)
  blank : ∀ j, D.length * C + u ≤ j → j < 40 * C → t.cs[j]? = some blankC
  now : shB ((rowL t.cs C D.length).take u) = c.data.toList
  done : ∀ i b, D[i]? = some b → ∃ m, m ≤ C ∧ shB ((rowL t.cs C i).take m) = b.data.toList
theorem rowL_get (L : List Cl) (C i j : Nat) (h : j < C) : (rowL L C i)[j]? = L[i * C + j]? := by
  unfold rowL
  rw [List.getElem?_take, if_pos h, List.getElem?_drop]
theorem row_take {L M : List Cl} {C i m : Nat} (hm : m ≤ C) (h : ∀ j, j < m → L[i * C + j]? = M[i * C + j]?) : (rowL L C i).take m = (rowL M C i).take m := by
  apply List.ext_getElem?
  intro j
  rw [List.getElem?_take, List.getElem?_take]
  split
  · rename_i hj
    rw [rowL_get _ _ _ _ (by omega), rowL_get _ _ _ _ (by omega)]
    exact h j hj
  · rfl
theorem set_same {L : List Cl} {i : Nat} {x : Cl} (h : L[i]? = some x) : L.set i x = L := by
  apply List.ext_getElem?
  intro j
  rw [List.getElem?_set]
  split
  · rename_i e
    subst e
    rw [if_pos (List.getElem?_eq_some_iff.1 h).1, h]
  · rfl
theorem wipe_blank {L : List Cl} {i : Nat} (h : L[i]? = some blankC) : wipeL L i = L := by
  unfold wipeL
  have e : L.getD i blankC = blankC := by rw [List.getD_eq_getElem?_getD, h]; rfl
  rw [e, if_neg (by decide), if_neg (by decide)]
  exact set_same h
theorem lay_facts {L : List Cl} {i m : Nat} (r : Int) (s : Cl) (hm : m = 1 ∨ m = 2) (hb : ∀ j, i ≤ j → j < i + m → L[j]? = some blankC) :
    (∀ j, j < i ∨ i + m ≤ j → (layL L i m r s)[j]? = L[j]?) ∧ (layL L i m r s)[i]? = some (inkT r m s) ∧ (m = 2 → (layL L i m r s)[i + 1]? = some (inkT 0 0 s)) := by
  have h0 := hb i (Nat.le_refl _) (by omega)
  have hl0 := (List.getElem?_eq_some_iff.1 h0).1
  rcases hm with rfl | rfl
  · have e : layL L i 1 r s = L.set i (inkT r 1 s) := by
      unfold layL
      rw [if_neg (by decide)]
      show (wipeL L (i + 0)).set i _ = _
      rw [Nat.add_zero, wipe_blank h0]
      rfl
    rw [e]
    refine ⟨fun j hj => ?_, ?_, fun h => absurd h (by decide)⟩
    · rw [List.getElem?_set_ne (by omega)]
    · rw [List.getElem?_set_self hl0]; rfl
  · have h1 := hb (i + 1) (by omega) (by omega)
    have hl1 := (List.getElem?_eq_some_iff.1 h1).1
    have e : layL L i 2 r s = (L.set i (inkT r 2 s)).set (i + 1) (inkT 0 0 s) := by
      unfold layL
      rw [if_pos rfl]
      show ((wipeL (wipeL L (i + 0)) (i + 1)).set i _).set (i + 1) _ = _
      rw [Nat.add_zero, wipe_blank h0, wipe_blank h1]
    rw [e]
    refine ⟨fun j hj => ?_, ?_, fun _ => ?_⟩
    · rw [List.getElem?_set_ne (by omega), List.getElem?_set_ne (by omega)]
    · rw [List.getElem?_set_ne (by omega), List.getElem?_set_self hl0]; rfl
    · rw [List.getElem?_set_self (by rw [List.length_set]; exact hl1)]
theorem TxI.new {C : Nat} (h : mayB 40 C = true) : TxI C [] ⟨#[]⟩ 0 (newM 40 C) := by
  have hb := may_bd h
  refine ⟨Inv.new h, rfl, rfl, rfl, rfl, .inr ⟨rfl, rfl, by omega⟩, fun j _ hj => ?_, by simp [shB], fun i b hi => by simp at hi⟩
  show (List.replicate (40 * C) blankC)[j]? = _
  rw [List.getElem?_replicate, if_pos hj]
theorem TxI.wrap {C : Nat} {D : List ByteArray} {c : ByteArray} {u : Nat} {t : Tm} (h : TxI C D c u t) (hd : D.length + 1 < 40) : TxI C (D ++ [c]) ⟨#[]⟩ 0 (wrapM t) := by
  have hC := h.i.hC
  rw [h.cols] at hC
  have hu : u ≤ C := by rcases h.cur with q | q <;> omega
  have hw := h.i.wrap
  have e : wrapM t = { t with col := 0, waits := false, row := t.row + 1 } := by
    unfold wrapM feedM
    dsimp only
    rw [if_pos (by rw [h.row, h.rows]; exact hd)]
  rw [e] at hw ⊢
  have hm : (D ++ [c]).length * C = D.length * C + C := by rw [List.length_append, List.length_singleton, Nat.add_mul, Nat.one_mul]
  refine ⟨hw, h.p, h.rows, h.cols, by show t.row + 1 = _; rw [h.row, List.length_append]; rfl, .inr ⟨rfl, rfl, by omega⟩, fun j h1 h2 => h.blank j (by omega) h2, by simp [shB], fun i b hi => ?_⟩
  rcases Nat.lt_or_ge i D.length with hlt | hge
  · rw [List.getElem?_append_left hlt] at hi
    exact h.done i b hi
  · rw [List.getElem?_append_right hge] at hi
    have e0 : i - D.length = 0 := by
      rcases Nat.eq_zero_or_pos (i - D.length) with q | q
      · exact q
      · rw [List.getElem?_eq_none (show [c].length ≤ _ from q)] at hi; cases hi
    rw [e0] at hi
    have ei : i = D.length := by omega
    simp at hi
    subst hi ei
    exact ⟨u, hu, h.now⟩
theorem TxI.lay {C : Nat} {D : List ByteArray} {c : ByteArray} {u : Nat} {t : Tm} (h : TxI C D c u t) {r : Int} {m : Nat} (hm : m = 1 ∨ m = 2) (hr : cells r = m) (hu : u + m ≤ C) : TxI C D (c ++ putS r) (u + m) (layM t r m) := by
  have hC := h.i.hC
  rw [h.cols] at hC
  obtain ⟨hwt, hcl, huC⟩ : t.waits = false ∧ t.col = u ∧ u < C := by
    rcases h.cur with q | q
    · omega
    · exact q
  have hD : D.length < 40 := by have := h.i.hrow; rw [h.row, h.rows] at this; exact this
  have hRC : D.length * C + C ≤ 40 * C := by
    have : (D.length + 1) * C ≤ 40 * C := Nat.mul_le_mul_right C (by omega)
    rw [Nat.add_mul, Nat.one_mul] at this; exact this
  have hi := Inv.lay h.i hm hr (by rw [hcl, h.cols]; exact hu)
  have ecs : (layM t r m).cs = layL t.cs (D.length * C + u) m r t.sty := by
    unfold layM
    dsimp only
    rw [h.row, h.cols, hcl]
  obtain ⟨f1, f2, f3⟩ := lay_facts (L := t.cs) (i := D.length * C + u) r t.sty hm (fun j h1 h2 => h.blank j h1 (by omega))
  rw [← ecs] at f1 f2 f3
  have hrow9 : ∀ (i m9 : Nat), m9 ≤ C → (i < D.length ∨ (i = D.length ∧ m9 ≤ u)) → (rowL (layM t r m).cs C i).take m9 = (rowL t.cs C i).take m9 := fun i m9 h9 hlt => row_take h9 (fun j hj => f1 _ (.inl (by
    rcases hlt with q | ⟨q, q2⟩
    · have : (i + 1) * C ≤ D.length * C := Nat.mul_le_mul_right C (by omega)
      rw [Nat.add_mul, Nat.one_mul] at this
      omega
    · subst q; omega)))
  refine ⟨hi, h.p, h.rows, h.cols, h.row, ?_, fun j h1 h2 => ?_, ?_, fun i b hb => ?_⟩
  · show ((decide (t.cols ≤ t.col + m)) = true ∧ _ ∧ (if t.cols ≤ t.col + m then t.cols - 1 else t.col + m) + 1 = C) ∨ (decide (t.cols ≤ t.col + m) = false ∧ (if t.cols ≤ t.col + m then t.cols - 1 else t.col + m) = _ ∧ _)
    rw [h.cols, hcl]
    by_cases h9 : C ≤ u + m
    · left
      rw [if_pos h9]
      exact ⟨by simpa using h9, by omega, by omega⟩
    · right
      rw [if_neg h9]
      exact ⟨by simpa using h9, rfl, by omega⟩
  · rw [f1 j (.inr (by omega))]
    exact h.blank j (by omega) h2
  · have g1 : (rowL (layM t r m).cs C D.length)[u]? = some (inkT r m t.sty) := by rw [rowL_get _ _ _ _ huC]; exact f2
    have s1 := shB_step g1
    rw [hrow9 D.length u (by omega) (.inr ⟨rfl, Nat.le_refl _⟩), h.now, if_pos (by show (0 : Int) < (m : Int); omega)] at s1
    have s1' : shB ((rowL (layM t r m).cs C D.length).take (u + 1)) = (c ++ putS r).data.toList := by rw [s1, join_data]; rfl
    rcases hm with rfl | rfl
    · exact s1'
    · have g2 : (rowL (layM t r 2).cs C D.length)[u + 1]? = some (inkT 0 0 t.sty) := by rw [rowL_get _ _ _ _ (by omega)]; exact f3 rfl
      have s2 := shB_step g2
      rw [s1', if_neg (by show ¬ (0 : Int) < 0; decide), List.append_nil] at s2
      exact s2
  · have hiD := (List.getElem?_eq_some_iff.1 hb).1
    obtain ⟨m9, h9, h10⟩ := h.done i b hb
    exact ⟨m9, h9, by rw [hrow9 i m9 h9 (.inl hiD)]; exact h10⟩
theorem TxI.show {C : Nat} {D : List ByteArray} {c : ByteArray} {u : Nat} {t : Tm} (h : TxI C D c u t) {r : Int} {m : Nat} (hm : m = 1 ∨ m = 2) (hr : cells r = m) (hd : D.length + 1 ≠ 40) :
    if u + m ≤ C then TxI C D (c ++ putS r) (u + m) (showM t r m) else TxI C (D ++ [c]) (putS r) m (showM t r m) := by
  have hD : D.length < 40 := by have := h.i.hrow; rw [h.row, h.rows] at this; exact this
  have hC := h.i.hC
  rw [h.cols] at hC
  split
  · rename_i hu
    have hw : wrapsB t m = false := by
      unfold wrapsB
      rcases h.cur with ⟨q1, q2, q3⟩ | ⟨q1, q2, q3⟩
      · omega
      · rw [q1, q2, h.cols]
        simp
        omega
    unfold showM
    rw [hw]
    exact h.lay hm hr hu
  · rename_i hu
    have hw : wrapsB t m = true := by
      unfold wrapsB
      rcases h.cur with ⟨q1, q2, q3⟩ | ⟨q1, q2, q3⟩
      · rw [q1]; rfl
      · rw [q1, q2, h.cols]
        simp
        omega
    unfold showM
    rw [hw, if_pos rfl]
    have := (h.wrap (by omega)).lay hm hr (by omega)
    rw [Nat.zero_add, show (⟨#[]⟩ : ByteArray) ++ putS r = putS r from ByteArray.empty_append] at this
    exact this
theorem cells_ne {r : Int} (h : cells r ≠ 0) : ((0 ≤ r ∧ r < 55296) ∨ (57344 ≤ r ∧ r ≤ 1114111)) ∧ 32 ≤ r ∧ r ≠ 127 := by
  have key : ¬ (r < 0 ∨ 1114111 < r ∨ among hid r = true) := fun e => h (by unfold cells; rw [if_pos e])
  have h1 : ∀ p ∈ hid, ¬ (p.1 ≤ r ∧ r ≤ p.2) := fun p hp e => key (.inr (.inr (by
    unfold among
    rw [List.any_eq_true]
    exact ⟨p, hp, by simpa using e⟩)))
  have a1 := h1 (0, 31) (by decide)
  have a2 := h1 (127, 159) (by decide)
  have a3 := h1 (55296, 57343) (by decide)
  dsimp only at a1 a2 a3
  omega
theorem wid_ne {r : Int} (h : cells r ≠ 0) : (widN r = 1 ∨ widN r = 2) ∧ cells r = widN r := by
  have := cells_bd r
  unfold widN
  omega
theorem write_rune {t : Tm} (hp : t.p = (0, ⟨#[]⟩)) {r : Int} (h : cells r ≠ 0) : writeM t (putS r) = showM t r (widN r) := by
  obtain ⟨hv, h1, h2⟩ := cells_ne h
  rw [write_asks hp (asks_rune hv h1 h2)]
  have e : shown r = r := by unfold shown; rw [if_neg h]
  unfold actM
  rw [if_pos rfl]
  dsimp only
  rw [e]
theorem putS_le9 (r : Int) : (putS r).size ≤ 4 := putS_le r
structure TxOk (C k : Nat) (q : Tx) : Prop where
  i : TxI C q.D q.c q.u (writeM (newM 40 C) q.x)
  x : q.x.size ≤ 4 * k
  d : q.D.length < 40
  u : q.u ≤ C
theorem TxOk.new {C : Nat} (h : mayB 40 C = true) : TxOk C 0 tx0 := ⟨TxI.new h, Nat.zero_le _, by show 0 < 40; decide, Nat.zero_le _⟩
theorem TxOk.put {C k : Nat} {q : Tx} (h : TxOk C k q) {r : Int} (hr : cells r ≠ 0) (hd : q.D.length + 1 ≠ 40) : TxOk C (k + 1) (txPut C q r) := by
  obtain ⟨hm, hc⟩ := wid_ne hr
  have hs := h.i.show hm hc hd
  have hz := putS_le9 r
  have hC := h.i.i.hC
  rw [h.i.cols] at hC
  have hw : writeM (newM 40 C) (q.x ++ putS r) = showM (writeM (newM 40 C) q.x) r (widN r) := by rw [write_app, write_rune h.i.p hr]
  have hx : (q.x ++ putS r).size ≤ 4 * (k + 1) := by have := h.x; rw [ByteArray.size_append]; omega
  unfold txPut
  split
  · rename_i hu
    rw [if_pos hu] at hs
    exact ⟨by dsimp only; rw [hw]; exact hs, hx, h.d, hu⟩
  · rename_i hu
    rw [if_neg hu] at hs
    exact ⟨by dsimp only; rw [hw]; exact hs, hx, by have := h.d; simp only [List.length_append, List.length_singleton]; omega, by dsimp only; omega⟩
theorem TxOk.at {C k : Nat} {q : Tx} (h : TxOk C k q) (s : ByteArray) (i : Nat) : TxOk C (k + 1) (txAt C s q i) := by
  unfold txAt
  split
  · rename_i hc
    exact h.put hc.2.1 hc.2.2
  · exact ⟨h.i, by have := h.x; omega, h.d, h.u⟩
theorem txTo_ok {C : Nat} (h : mayB 40 C = true) (s : ByteArray) : ∀ k, TxOk C k (txTo C s k)
  | 0 => TxOk.new h
  | k + 1 => by
    have ih := txTo_ok h s k
    cases hk : (starts s)[k]? with
    | some i => rw [txTo_step hk]; exact ih.at s i
    | none =>
      have e : txTo C s (k + 1) = txTo C s k := by
        unfold txTo
        rw [List.take_add_one, hk]
        simp
      rw [e]
      exact ⟨ih.i, by have := ih.x; omega, ih.d, ih.u⟩
theorem tx_rows {C : Nat} {D : List ByteArray} {c : ByteArray} {u : Nat} {t : Tm} (h : TxI C D c u t) : (rowsF (frM t)).length = 40 ∧ D.length + 1 ≤ 40 ∧ ∀ (i : Nat) (b : ByteArray), (D ++ [c])[i]? = some b → ∃ g : ByteArray, (rowsF (frM t))[i]? = some g ∧ b.size ≤ g.size ∧ g.size ≤ 800 ∧ g.extract 0 b.size = b := by
  have hv := Inv.fr h.i
  have hD : D.length < 40 := by have := h.i.hrow; rw [h.row, h.rows] at this; exact this
  have hC := h.i.hC
  rw [h.cols] at hC
  have e : rowsF (frM t) = rowsTo t.cs C 40 := by
    rw [rowsF_ok hv]
    show rowsTo t.cs ((t.cols : Int)).toNat ((t.rows : Int)).toNat = _
    rw [h.cols, h.rows]
    rfl
  refine ⟨by rw [e, rowsTo_len], by omega, fun i b hb => ?_⟩
  have hi : i < D.length + 1 := by have := (List.getElem?_eq_some_iff.1 hb).1; simpa using this
  have hu : u ≤ C := by rcases h.cur with q | q <;> omega
  have key : ∃ m, m ≤ C ∧ shB ((rowL t.cs C i).take m) = b.data.toList := by
    rcases Nat.lt_or_ge i D.length with hlt | hge
    · rw [List.getElem?_append_left hlt] at hb
      exact h.done i b hb
    · have ei : i = D.length := by omega
      subst ei
      rw [List.getElem?_append_right (Nat.le_refl _), Nat.sub_self] at hb
      simp at hb
      subst hb
      exact ⟨u, hu, h.now⟩
  obtain ⟨m, hm, hs⟩ := key
  have ha : shB (rowL t.cs C i) = b.data.toList ++ shB ((rowL t.cs C i).drop m) := by
    rw [← hs, ← shB_app, List.take_append_drop]
  have hg : rowS t.cs C i = b ++ ⟨(shB ((rowL t.cs C i).drop m)).toArray⟩ := by
    unfold rowS
    rw [ha]
    apply ByteArray.ext
    simp
  have hz : (rowS t.cs C i).size ≤ 800 := by
    have h1 : (rowS t.cs C i).size = (shB (rowL t.cs C i)).length := by unfold rowS; simp [ByteArray.size]
    have h2 := shB_le (rowL t.cs C i)
    have h3 : (rowL t.cs C i).length ≤ C := by unfold rowL; rw [List.length_take]; omega
    omega
  refine ⟨rowS t.cs C i, by rw [e]; unfold rowsTo; rw [List.getElem?_map, List.getElem?_range (by omega)]; rfl, ?_, hz, ?_⟩
  · rw [hg, ByteArray.size_append]; omega
  · rw [hg]
    have := join_front (a := b) (b := ⟨(shB ((rowL t.cs C i).drop m)).toArray⟩) (i := 0) (n := b.size) (by omega)
    rw [Nat.zero_add] at this
    rw [this]
    have h2 := extract_whole b
    rwa [Nat.zero_add] at h2
end Go.Proofs.YtmemdhmjhckmaaaDoor
