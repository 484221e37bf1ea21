/- What is read may be; how deep it is, how many nodes it has. What is shown is long enough. Plain. -/
import Derived.Test.YtfamoikmfbpigaaDoorJnode
import Derived.Test.YtfamoikmfbpigaaDoorErow
namespace Go.Proofs.YtfamoikmfbpigaaDoor
open Go.RowKit

theorem kid_len_ge (of : Int) (x : Nd) (t : List UInt8) : t.length ≤ (kidE of x t).length := by
  unfold kidE
  split
  · simp; omega
  · exact Nat.le_refl _
theorem join_ge : ∀ ts : List (List UInt8), ts.flatten.length ≤ (Go.Lib.join ts [124]).length
  | [] => by simp
  | t :: ts => by
    rw [join_bars, List.flatten_cons, List.length_append, List.length_append]
    have key : ∀ ts : List (List UInt8), ts.flatten.length ≤ ((ts.map fun u => 124 :: u).flatten).length := fun ts => by
      induction ts with
      | nil => simp
      | cons u ts ih => rw [List.map_cons, List.flatten_cons, List.flatten_cons, List.length_append, List.length_append, List.length_cons]; omega
    have := key ts
    omega
mutual
theorem deep_len : ∀ n : Nd, rmayE n = true → deepE n ≤ (showE n).length
  | .mk k S L, h => by
    rw [rmayE, Bool.and_eq_true] at h
    have hl := deep_lens k L h.2
    rw [deepE]
    rcases shape_ways h.1 with ⟨rfl, rfl, rfl⟩ | ⟨rfl, rfl⟩ | ⟨hk, h2, rfl⟩ | ⟨hk, ⟨x, rfl⟩, rfl⟩
    · rw [show showE (.mk 0 noSet []) = [40, 41] from by simp [showE], deepL]; decide
    · rw [show showE (.mk 1 S []) = spansE S from by simp [showE], deepL]; exact (spans_head (S := S)).pos
    · rcases hk with rfl | rfl
      · rw [show showE (.mk 2 noSet L) = (kidsE 2 L).flatten from by simp [showE]]; omega
      · rw [show showE (.mk 3 noSet L) = Go.Lib.join (kidsE 3 L) [124] from by simp [showE]]
        have := join_ge (kidsE 3 L)
        omega
    · have hx : (kidsE k [x]).flatten = kidE k x (showE x) := by simp [kidsE]
      rw [hx] at hl
      simp only [List.length_cons, List.length_nil] at hl
      rcases hk with rfl | rfl | rfl
      · rw [show showE (.mk 4 noSet [x]) = kidE 4 x (showE x) ++ [42] from by simp [showE, kidsE], List.length_append]; simp; omega
      · rw [show showE (.mk 5 noSet [x]) = kidE 5 x (showE x) ++ [43] from by simp [showE, kidsE], List.length_append]; simp; omega
      · rw [show showE (.mk 6 noSet [x]) = kidE 6 x (showE x) ++ [63] from by simp [showE, kidsE], List.length_append]; simp; omega
theorem deep_lens (of : Int) : ∀ L : List Nd, rmayL L = true → deepL L + L.length ≤ (kidsE of L).flatten.length + 1 ∧ L.length ≤ (kidsE of L).flatten.length
  | [], _ => by simp [deepL, kidsE]
  | x :: l, h => by
    rw [rmayL, Bool.and_eq_true] at h
    have h1 := deep_len x h.1
    have h2 := deep_lens of l h.2
    have h3 := kid_len_ge of x (showE x)
    have h4 : 1 ≤ deepE x := by cases x; rw [deepE]; omega
    rw [deepL, kidsE, List.flatten_cons, List.length_append, List.length_cons]
    omega
end
theorem show_pos {n : Nd} (h : rmayE n = true) : 1 ≤ (showE n).length := by
  have := deep_len n h
  cases n; rw [deepE] at this; omega
theorem braL_w : ∀ (f : Nat) (b : Bool) (s : ByteArray) (S S' : List Nat) (t : ByteArray), W64 S → braL f b s S = some (S', t) → W64 S'
  | 0, _, _, _, _, _, _, h => by rw [braL] at h; cases h
  | f + 1, b, s, S, S', t, hS, h => by
    rw [braL] at h
    split at h
    · split at h
      · cases h
      · split at h
        · split at h
          · cases h
          · split at h
            · cases h
            · exact braL_w f _ _ _ _ _ (spanS_w hS _ _) h
        · exact braL_w f _ _ _ _ _ (spanS_w hS _ _) h
    · injection h with h; injection h with h1 h2
      exact h1 ▸ hS
/-- What a reader of rules answers. -/
def GoodR (R : ByteArray → Option (Nd × ByteArray)) : Prop := ∀ s n t, R s = some (n, t) → rmayE n = true ∧ wN n ∧ ∃ c, s.size = t.size + c ∧ (deepE n ≤ 2 ∨ deepE n ≤ c) ∧ szN n ≤ 2 * c + 1
def GoodP (n : Nd) (s t : ByteArray) : Prop := rmayE n = true ∧ wN n ∧ ∃ c, s.size = t.size + c ∧ 1 ≤ c ∧ deepE n ≤ c ∧ szN n + 1 ≤ 2 * c
theorem set_good (S : List Nat) (hS : W64 S) (s t : ByteArray) (h : t.size < s.size) : GoodP (.mk 1 S []) s t := by
  refine ⟨by simp [rmayE, shapeB, rmayL], by rw [wN, wL]; exact ⟨hS, trivial⟩, s.size - t.size, by omega, by omega, ?_, ?_⟩
  · rw [deepE, deepL]; omega
  · rw [szN, szL]; omega
theorem isB_pos {s : ByteArray} {b : Nat} (h : isB s b = true) : 0 < s.size := by
  unfold isB at h
  split at h
  · assumption
  · cases h
theorem tail_size (s : ByteArray) : (s.extract 1 s.size).size = s.size - 1 := by rw [ByteArray.size_extract]; omega
theorem atom_good {R : ByteArray → Option (Nd × ByteArray)} (hR : GoodR R) {s t : ByteArray} {n : Nd} (h : atomE R s = some (n, t)) : GoodP n s t := by
  have hbd := atom_bd (fun u n v hu => by obtain ⟨-, -, c, h, -⟩ := hR u n v hu; omega) h
  unfold atomE at h
  cases ht : tk s with
  | none => rw [ht] at h; cases h
  | some bt =>
    obtain ⟨b, t1⟩ := bt
    have hs := (tk_bd ht).2
    rw [ht] at h
    dsimp only at h
    split at h
    · cases hr : R t1 with
      | none => rw [hr] at h; cases h
      | some x =>
        obtain ⟨m, t2⟩ := x
        rw [hr] at h
        dsimp only at h
        split at h
        · rename_i hb
          injection h with h; injection h with h1 h2
          subst h1
          obtain ⟨g1, g2, c, g3, g4, g5⟩ := hR _ _ _ hr
          have := isB_pos hb
          have := tail_size t2
          rw [h2] at this
          exact ⟨g1, g2, c + 2, by omega, by omega, by omega, by omega⟩
        · cases h
    · split at h
      · unfold braE at h
        cases hb : braL ((skipS t1 94).size + 1) true (skipS t1 94) noSet with
        | none => rw [hb] at h; cases h
        | some x =>
          obtain ⟨S, u⟩ := x
          rw [hb] at h
          injection h with h; injection h with h1 h2
          subst h1
          exact set_good _ (cmpJ_w (braL_w _ _ _ _ _ _ noSet_w hb) _) _ _ hbd
      · split at h
        · injection h with h; injection h with h1 h2
          subst h1
          exact set_good _ (spanS_w (spanS_w noSet_w _ _) _ _) _ _ hbd
        · split at h
          · cases he : escE t1 with
            | none => rw [he] at h; cases h
            | some x =>
              obtain ⟨c, u⟩ := x
              rw [he] at h
              injection h with h; injection h with h1 h2
              subst h1
              exact set_good _ (spanS_w noSet_w _ _) _ _ hbd
          · split at h
            · cases h
            · injection h with h; injection h with h1 h2
              subst h1
              exact set_good _ (spanS_w noSet_w _ _) _ _ hbd
theorem sgn_ways {b : Nat} (h : 0 < sgn b) : sgn b = 4 ∨ sgn b = 5 ∨ sgn b = 6 := by
  unfold sgn at h ⊢
  repeat' split
  all_goals first | omega | (exfalso; simp_all)
theorem signs_good : ∀ (f : Nat) (s t : ByteArray) (n : Nd), GoodP n s t → GoodP (signsE f n t).1 s (signsE f n t).2
  | 0, _, _, _, h => h
  | f + 1, s, t, n, h => by
    rw [signsE]
    split
    · rename_i hs
      have hp := sgn_pos hs
      obtain ⟨g1, g2, c, g3, g4, g5, g6⟩ := h
      refine signs_good f s _ _ ⟨?_, ?_, c + 1, ?_, by omega, ?_, ?_⟩
      · rw [rmayE, rmayL, rmayL, g1]
        rcases sgn_ways hs with e | e | e <;> rw [e] <;> rfl
      · rw [wN, wL, wL]; exact ⟨noSet_w, g2, trivial⟩
      · rw [tail_size]; omega
      · rw [deepE, deepL, deepL]; omega
      · rw [szN, szL, szL]; omega
    · exact h
theorem piece_good {R : ByteArray → Option (Nd × ByteArray)} (hR : GoodR R) {s t : ByteArray} {n : Nd} (h : pieceE R s = some (n, t)) : GoodP n s t := by
  unfold pieceE at h
  cases ha : atomE R s with
  | none => rw [ha] at h; cases h
  | some x =>
    obtain ⟨m, u⟩ := x
    rw [ha] at h
    injection h with h
    have := signs_good u.size s u m (atom_good hR ha)
    rw [h] at this
    exact this
theorem rmayL_app : ∀ (l m : List Nd), rmayL (l ++ m) = (rmayL l && rmayL m)
  | [], m => by simp [rmayL]
  | x :: l, m => by rw [List.cons_append, rmayL, rmayL, rmayL_app l m, Bool.and_assoc]
theorem wL_app : ∀ (l m : List Nd), wL (l ++ m) ↔ wL l ∧ wL m
  | [], m => by simp [wL]
  | x :: l, m => by rw [List.cons_append, wL, wL, wL_app l m, and_assoc]
theorem szL_app : ∀ (l m : List Nd), szL (l ++ m) = szL l + szL m
  | [], m => by simp [szL]
  | x :: l, m => by rw [List.cons_append, szL, szL, szL_app l m]; omega
theorem one_good (n : Nd) : (rmayL [n] = rmayE n) ∧ (wL [n] ↔ wN n) ∧ deepL [n] = deepE n ∧ szL [n] = szN n := by
  refine ⟨by simp [rmayL], by simp [wL], by simp [deepL], by simp [szL]⟩
/-- Pieces, one behind the other. -/
theorem rowL_good {R : ByteArray → Option (Nd × ByteArray)} (hR : GoodR R) : ∀ (f : Nat) (s0 s t : ByteArray) (l l' : List Nd), (rmayL l = true ∧ wL l ∧ ∃ c, s0.size = s.size + c ∧ szL l + l.length ≤ 2 * c ∧ deepL l + l.length ≤ c + 1 ∧ l.length ≤ c) → rowL R f l s = some (l', t) →
    (rmayL l' = true ∧ wL l' ∧ ∃ c, s0.size = t.size + c ∧ szL l' + l'.length ≤ 2 * c ∧ deepL l' + l'.length ≤ c + 1 ∧ l'.length ≤ c)
  | 0, _, _, _, _, _, _, h => by rw [rowL] at h; cases h
  | f + 1, s0, s, t, l, l', hg, h => by
    rw [rowL] at h
    split at h
    · injection h with h; injection h with h1 h2
      rw [← h1, ← h2]; exact hg
    · cases hp : pieceE R s with
      | none => rw [hp] at h; cases h
      | some x =>
        obtain ⟨n, u⟩ := x
        rw [hp] at h
        dsimp only at h
        obtain ⟨p1, p2, d, p3, p4, p5, p6⟩ := piece_good hR hp
        obtain ⟨g1, g2, c, g3, g4, g5, g6⟩ := hg
        obtain ⟨o1, o2, o3, o4⟩ := one_good n
        refine rowL_good hR f s0 u t _ l' ⟨by rw [rmayL_app, g1, o1, p1]; rfl, (wL_app _ _).2 ⟨g2, o2.2 p2⟩, c + d, by omega, ?_, ?_, ?_⟩ h
        · rw [szL_app, o4, List.length_append]; simp only [List.length_cons, List.length_nil]; omega
        · rw [deepL_app, o3, List.length_append]; simp only [List.length_cons, List.length_nil]; omega
        · rw [List.length_append]; simp only [List.length_cons, List.length_nil]; omega
theorem joined_may (k : Int) (hk : k = 2 ∨ k = 3) (l : List Nd) (h1 : rmayL l = true) (h2 : wL l) : rmayE (joinedE k l) = true ∧ wN (joinedE k l) := by
  match l, h1, h2 with
  | [], _, _ => exact ⟨by simp [joinedE, rmayE, shapeB, rmayL], by rw [joinedE, wN, wL]; exact ⟨noSet_w, trivial⟩⟩
  | [x], h1, h2 => rw [joinedE]; exact ⟨by rw [← (one_good x).1]; exact h1, (one_good x).2.1.1 h2⟩
  | x :: y :: l, h1, h2 =>
    rw [joinedE, rmayE, h1, wN]
    refine ⟨?_, noSet_w, h2⟩
    rcases hk with rfl | rfl <;> simp [shapeB]
theorem row_good {R : ByteArray → Option (Nd × ByteArray)} (hR : GoodR R) {s t : ByteArray} {n : Nd} (h : rowE R s = some (n, t)) : rmayE n = true ∧ wN n ∧ ∃ c, s.size = t.size + c ∧ (deepE n ≤ 1 ∨ deepE n ≤ c) ∧ szN n ≤ 2 * c + 1 := by
  unfold rowE at h
  cases hl : rowL R (s.size + 1) [] s with
  | none => rw [hl] at h; cases h
  | some x =>
    obtain ⟨l, u⟩ := x
    rw [hl] at h
    injection h with h; injection h with h1 h2
    subst h2
    obtain ⟨g1, g2, c, g3, g4, g5, g6⟩ := rowL_good hR _ s s _ [] l ⟨rfl, by rw [wL]; trivial, 0, by omega, by simp [szL], by simp [deepL], by simp⟩ hl
    obtain ⟨m1, m2⟩ := joined_may 2 (.inl rfl) l g1 g2
    rw [h1] at m1 m2
    refine ⟨m1, m2, c, g3, ?_, ?_⟩
    · rw [← h1]
      match l, g4, g5, g6 with
      | [], _, _, _ => rw [joinedE, deepE, deepL]; omega
      | [x], _, g5, _ => rw [joinedE]; rw [(one_good x).2.2.1] at g5; simp only [List.length_cons, List.length_nil] at g5; omega
      | x :: y :: l, _, g5, _ => rw [joinedE, deepE]; simp only [List.length_cons] at g5; omega
    · rw [← h1]
      match l, g4, g5, g6 with
      | [], _, _, _ => rw [joinedE, szN, szL]; omega
      | [x], g4, _, _ => rw [joinedE]; rw [(one_good x).2.2.2] at g4; simp only [List.length_cons, List.length_nil] at g4; omega
      | x :: y :: l, g4, _, _ => rw [joinedE, szN]; simp only [List.length_cons] at g4; omega
theorem rowsL_good {R : ByteArray → Option (Nd × ByteArray)} (hR : GoodR R) : ∀ (f : Nat) (s0 s t : ByteArray) (l l' : List Nd), (rmayL l = true ∧ wL l ∧ 1 ≤ l.length ∧ ∃ c, s0.size = s.size + c ∧ szL l + l.length ≤ 2 * c + 2 ∧ (deepL l ≤ 1 ∨ deepL l + l.length ≤ c + 1) ∧ l.length ≤ c + 1) → rowsL R f l s = some (l', t) →
    (rmayL l' = true ∧ wL l' ∧ 1 ≤ l'.length ∧ ∃ c, s0.size = t.size + c ∧ szL l' + l'.length ≤ 2 * c + 2 ∧ (deepL l' ≤ 1 ∨ deepL l' + l'.length ≤ c + 1) ∧ l'.length ≤ c + 1)
  | 0, _, _, _, _, _, _, h => by rw [rowsL] at h; cases h
  | f + 1, s0, s, t, l, l', hg, h => by
    rw [rowsL] at h
    split at h
    · rename_i hb
      cases hp : rowE R (s.extract 1 s.size) with
      | none => rw [hp] at h; cases h
      | some x =>
        obtain ⟨n, u⟩ := x
        rw [hp] at h
        dsimp only at h
        obtain ⟨p1, p2, d, p3, p4, p5⟩ := row_good hR hp
        rw [tail_size] at p3
        have := isB_pos hb
        obtain ⟨g1, g2, g0, c, g3, g4, g5, g6⟩ := hg
        obtain ⟨o1, o2, o3, o4⟩ := one_good n
        refine rowsL_good hR f s0 u t _ l' ⟨by rw [rmayL_app, g1, o1, p1]; rfl, (wL_app _ _).2 ⟨g2, o2.2 p2⟩, by rw [List.length_append]; omega, c + 1 + d, by omega, ?_, ?_, ?_⟩ h
        · rw [szL_app, o4, List.length_append]; simp only [List.length_cons, List.length_nil]; omega
        · rw [deepL_app, o3, List.length_append]; simp only [List.length_cons, List.length_nil]; omega
        · rw [List.length_append]; simp only [List.length_cons, List.length_nil]; omega
    · injection h with h; injection h with h1 h2
      rw [← h1, ← h2]; exact hg
theorem rows_good {R : ByteArray → Option (Nd × ByteArray)} (hR : GoodR R) : GoodR (rowsE1 R) := by
  intro s n t h
  unfold rowsE1 at h
  cases hr : rowE R s with
  | none => rw [hr] at h; cases h
  | some x =>
    obtain ⟨m, u⟩ := x
    rw [hr] at h
    dsimp only at h
    obtain ⟨p1, p2, d, p3, p4, p5⟩ := row_good hR hr
    cases hl : rowsL R (u.size + 1) [m] u with
    | none => rw [hl] at h; cases h
    | some x =>
      obtain ⟨l, v⟩ := x
      rw [hl] at h
      injection h with h; injection h with h1 h2
      subst h2
      obtain ⟨o1, o2, o3, o4⟩ := one_good m
      obtain ⟨g1, g2, g0, c, g3, g4, g5, g6⟩ := rowsL_good hR _ s u _ [m] l ⟨by rw [o1]; exact p1, o2.2 p2, by simp, d, p3, by rw [o4]; simp; omega, by rw [o3]; simp; omega, by simp⟩ hl
      obtain ⟨m1, m2⟩ := joined_may 3 (.inr rfl) l g1 g2
      rw [h1] at m1 m2
      refine ⟨m1, m2, c, g3, ?_, ?_⟩
      · rw [← h1]
        match l, g0, g4, g5, g6 with
        | [x], _, _, g5, _ => rw [joinedE]; rw [(one_good x).2.2.1] at g5; simp only [List.length_cons, List.length_nil] at g5; omega
        | x :: y :: l, _, _, g5, _ => rw [joinedE, deepE]; simp only [List.length_cons] at g5; omega
      · rw [← h1]
        match l, g0, g4, g5, g6 with
        | [x], _, g4, _, _ => rw [joinedE]; rw [(one_good x).2.2.2] at g4; simp only [List.length_cons, List.length_nil] at g4; omega
        | x :: y :: l, _, g4, _, _ => rw [joinedE, szN]; simp only [List.length_cons] at g4; omega
theorem rowsE_good : ∀ f, GoodR (rowsE f)
  | 0 => fun s n t h => by rw [rowsE] at h; cases h
  | f + 1 => by rw [show rowsE (f + 1) = rowsE1 (rowsE f) from funext fun s => by rw [rowsE]]; exact rows_good (rowsE_good f)
/-- What Parse answers may be; as many nodes, as deep. -/
theorem parse_good (s : ByteArray) (h : (parseP s).2 = 0) : s.size ≤ 200 ∧ rmayE (parseP s).1 = true ∧ wN (parseP s).1 ∧ deepE (parseP s).1 ≤ 200 ∧ szN (parseP s).1 ≤ 401 := by
  unfold parseP at h ⊢
  split
  · rename_i h1; rw [if_pos h1] at h; cases h
  · rename_i h1
    rw [if_neg h1] at h
    cases hr : rowsE (s.size + 1) s with
    | none => rw [hr] at h; cases h
    | some x =>
      obtain ⟨n, t⟩ := x
      rw [hr] at h
      dsimp only at h ⊢
      split
      · obtain ⟨g1, g2, c, g3, g4, g5⟩ := rowsE_good _ _ _ _ hr
        exact ⟨by omega, g1, g2, by dsimp only; omega, by dsimp only; omega⟩
      · rename_i h2; rw [if_neg h2] at h; cases h
theorem parse_ways (s : ByteArray) : (parseP s).2 = 0 ∨ ((parseP s).2 = 3 ∧ 200 < s.size ∨ (parseP s).2 = 10) ∧ (parseP s).1 = .mk 0 noSet [] := by
  unfold parseP
  split
  · rename_i h; exact .inr ⟨.inl ⟨rfl, h⟩, rfl⟩
  · split
    · exact .inr ⟨.inr rfl, rfl⟩
    · split
      · exact .inl rfl
      · exact .inr ⟨.inr rfl, rfl⟩
/-- A node's text, read. -/
theorem parse_show (n : Nd) (hm : rmayE n = true) (hw : wN n) (hl : (showE n).length ≤ 200) : parseP (bl (showE n)) = (n, 0) := by
  unfold parseP
  rw [if_neg (by rw [bl_size]; omega)]
  have := read_node (showE n).length n (deep_len n hm) hm hw [] (.inl rfl)
  rw [List.append_nil] at this
  rw [bl_size, this]
  rfl
theorem parse_long_show (l : List UInt8) (h : 200 < l.length) : (parseP (bl l)).2 = 3 := by
  unfold parseP
  rw [if_pos (by rw [bl_size]; exact h)]
mutual
theorem NdX.sets {P : Nat → Prop} {W : World} : ∀ (n : Nd) (cs : List Value), NdX P W n cs → wN n
  | .mk k S L, cs, h => by
    unfold NdX at h
    obtain ⟨A, cap, -, h1, -, -, h2⟩ := h
    rw [wN]
    exact ⟨h1, NdsX.sets L A 0 h2⟩
theorem NdsX.sets {P : Nat → Prop} {W : World} : ∀ (L : List Nd) (A : Option Addr) (j : Nat), NdsX P W L A j → wL L
  | [], _, _, _ => by rw [wL]; trivial
  | x :: l, A, j, h => by
    unfold NdsX at h
    obtain ⟨⟨b, o, cs, -, -, -, -, hx⟩, h2⟩ := h
    rw [wL]
    exact ⟨NdX.sets x cs hx, NdsX.sets l A (j + 1) h2⟩
end
end Go.Proofs.YtfamoikmfbpigaaDoor
