/- Plain: the document's way of putting a rune is the program's; rows that are joined. No program in sight. slices.Chunk of a screen's cells; what holds between two rounds of a range over it. Contract of grids.Valid: a range over slices.Chunk. -/
import Derived.Test.YtmemdhmjhckmaaaDoorZ3
import Derived.Test.YtmemdhmjhckmaaaDoorZ1
namespace Go.Proofs.YtmemdhmjhckmaaaDoor

theorem blankN_at {l : List Cl} {i n : Nat} (hn : n = 1 ∨ n = 2) (hi : i + n ≤ l.length) (j : Nat) : (blankN l i n)[j]? = if i ≤ j ∧ j < i + n then some blankC else l[j]? := by
  rcases hn with rfl | rfl
  · unfold blankN
    rw [if_neg (by omega), List.getElem?_set]
    by_cases e : i = j
    · subst e; rw [if_pos rfl, if_pos (by omega), if_pos (by omega)]
    · rw [if_neg e, if_neg (by omega)]
  · unfold blankN
    rw [if_pos rfl, List.getElem?_set]
    by_cases e : i + 1 = j
    · subst e; rw [if_pos rfl, if_pos (by simp; omega), if_pos (by omega)]
    · rw [if_neg e, List.getElem?_set]
      by_cases e2 : i = j
      · subst e2; rw [if_pos rfl, if_pos (by omega), if_pos (by omega)]
      · rw [if_neg e2, if_neg (by omega)]
theorem blankN_len (l : List Cl) (i n : Nat) : (blankN l i n).length = l.length := by unfold blankN; split <;> simp
theorem putD_at {l : List Cl} (h : rowB l = true) {i n : Nat} (hn : n = 1 ∨ n = 2) (hi : i + n ≤ l.length) (c : Cl) (j : Nat) : (putD l i n c)[j]? = putAt l i n c j := by
  have hm : ∀ j, (mendL none (blankN l i n))[j]? = _ := fun j => mendL_at (blankN l i n) none j
  have hml : (mendL none (blankN l i n)).length = l.length := by rw [mend_len, blankN_len]
  have core : ∀ j, ¬ (i ≤ j ∧ j < i + n) → (mendL none (blankN l i n))[j]? = if (j + 1 = i ∧ (l.getD i blankC).w = 0) ∨ (j = i + n ∧ (l.getD (i + n - 1) blankC).w = 2) then some blankC else l[j]? := by
    intro j hj
    have hb := blankN_at hn hi j
    rw [if_neg hj] at hb
    rw [hm j, hb]
    have L1 : j = i + n → (blankN l i n)[j - 1]? = some blankC := fun e => by rw [blankN_at hn hi, if_pos (show i ≤ j - 1 ∧ j - 1 < i + n by omega)]
    have R1 : ¬ j + 1 = i → (blankN l i n)[j + 1]? = l[j + 1]? := fun e => by rw [blankN_at hn hi, if_neg (show ¬ (i ≤ j + 1 ∧ j + 1 < i + n) by omega)]
    have L2 : ¬ j = i + n → (if j = 0 then none else (blankN l i n)[j - 1]?) = if j = 0 then none else l[j - 1]? := fun e => by
      split
      · rfl
      · rw [blankN_at hn hi, if_neg (show ¬ (i ≤ j - 1 ∧ j - 1 < i + n) by omega)]
    have R2 : j + 1 = i → (blankN l i n)[j + 1]? = some blankC := fun e => by rw [blankN_at hn hi, if_pos (show i ≤ j + 1 ∧ j + 1 < i + n by omega)]
    have Z1 : j = i + n → ¬ j = 0 := fun e => by omega
    have Z2 : j = i + n → j - 1 = i + n - 1 ∧ i + n - 1 + 1 = j ∧ ¬ j + 1 = i := fun e => by omega
    have Z3 : j + 1 = i → i - 1 = j ∧ ¬ j = i + n := fun e => by omega
    have Z4 : l.length ≤ j → ¬ j + 1 = i ∧ (j = i + n → i + n - 1 + 1 = j) := fun e => by omega
    have Z5 : i < l.length ∧ i + n - 1 < l.length := by omega
    have hx := List.getElem?_eq_getElem Z5.1
    have hy := List.getElem?_eq_getElem Z5.2
    rw [getD_some hx, getD_some hy]
    have x3 := (row_facts h i _ hx).2.2
    have y2 := (row_facts h (i + n - 1) _ hy).2.1
    cases hc : l[j]? with
    | none =>
      have hlj := List.getElem?_eq_none_iff.1 hc
      rw [Option.map_none, if_neg]
      rintro (⟨e, _⟩ | ⟨e, h2⟩)
      · exact (Z4 hlj).1 e
      · obtain ⟨d, hd, _⟩ := y2 h2
        rw [(Z4 hlj).2 e, hc] at hd
        cases hd
    | some z =>
      have hz := row_facts h j z hc
      have hk := mend_keep h hc
      rw [Option.map_some]
      by_cases e1 : j = i + n
      · rw [if_neg (Z1 e1), L1 e1, R1 (Z2 e1).2.2]
        have hiff : z.w = 0 ↔ (l[i + n - 1]'Z5.2).w = 2 := by
          constructor
          · intro h0
            obtain ⟨_, d, hd, hd2⟩ := hz.2.2 h0
            rw [(Z2 e1).1, hy] at hd
            injection hd with hd
            rw [hd]; exact hd2
          · intro h2
            obtain ⟨d, hd, hd2⟩ := y2 h2
            rw [(Z2 e1).2.1, hc] at hd
            injection hd with hd
            rw [hd]; exact hd2
        unfold mendAt
        by_cases h0 : z.w = 0
        · rw [if_pos (.inr ⟨h0, by simp [blank_w]⟩), if_pos (.inr ⟨e1, hiff.1 h0⟩)]
        · rw [if_neg, if_neg]
          · rintro (⟨a, _⟩ | ⟨_, b⟩)
            · exact (Z2 e1).2.2 a
            · exact h0 (hiff.2 b)
          · rintro (⟨a, b⟩ | ⟨a, _⟩)
            · obtain ⟨d, hd, hd2⟩ := hz.2.1 a
              rw [hd] at b
              simp [hd2] at b
            · exact h0 a
      by_cases e2 : j + 1 = i
      · rw [L2 (Z3 e2).2, R2 e2]
        have hiff : z.w = 2 ↔ (l[i]'Z5.1).w = 0 := by
          constructor
          · intro h2
            obtain ⟨d, hd, hd2⟩ := hz.2.1 h2
            rw [e2, hx] at hd
            injection hd with hd
            rw [hd]; exact hd2
          · intro h0
            obtain ⟨_, d, hd, hd2⟩ := x3 h0
            rw [(Z3 e2).1, hc] at hd
            injection hd with hd
            rw [hd]; exact hd2
        unfold mendAt
        by_cases h0 : z.w = 2
        · rw [if_pos (.inl ⟨h0, by simp [blank_w]⟩), if_pos (.inl ⟨e2, hiff.1 h0⟩)]
        · rw [if_neg, if_neg]
          · rintro (⟨_, b⟩ | ⟨b, _⟩)
            · exact h0 (hiff.2 b)
            · exact (Z3 e2).2 b
          · rintro (⟨a, b⟩ | ⟨a, b⟩)
            · exact h0 a
            · obtain ⟨hj1, d, hd, hd2⟩ := hz.2.2 a
              rw [if_neg (Nat.ne_of_gt hj1), hd] at b
              simp [hd2] at b
      · rw [L2 e1, R1 e2, hk, if_neg]
        rintro (⟨a, _⟩ | ⟨a, _⟩)
        · exact e2 a
        · exact e1 a
  rcases hn with rfl | rfl
  · unfold putD putAt
    rw [if_neg (by omega), List.getElem?_set]
    by_cases e : i = j
    · subst e; rw [if_pos rfl, if_pos (by omega), if_pos rfl]
    · rw [if_neg e, if_neg (show ¬ j = i from fun h => e h.symm), if_neg (show ¬ (1 = 2 ∧ j = i + 1) by omega), core j (by omega)]
  · unfold putD putAt
    rw [if_pos rfl, List.getElem?_set]
    by_cases e : i + 1 = j
    · subst e; rw [if_pos rfl, if_pos (by rw [List.length_set]; omega), if_neg (show ¬ i + 1 = i by omega), if_pos ⟨rfl, rfl⟩]
    · rw [if_neg e, List.getElem?_set]
      by_cases e2 : i = j
      · subst e2; rw [if_pos rfl, if_pos (by omega), if_pos rfl]
      · rw [if_neg e2, if_neg (show ¬ j = i from fun h => e2 h.symm), if_neg (show ¬ (2 = 2 ∧ j = i + 1) by omega), core j (by omega)]
theorem putD_eq {l : List Cl} (h : rowB l = true) {i n : Nat} (hn : n = 1 ∨ n = 2) (hi : i + n ≤ l.length) (c : Cl) : putD l i n c = putL l i n c := by
  apply List.ext_getElem?
  intro j
  rw [putD_at h hn hi, putL_at h hn hi]

theorem row_app : ∀ (l m : List Cl), rowB l = true → rowB (l ++ m) = rowB m
  | [], m, _ => rfl
  | [c], m, h => by
    simp only [rowB, Bool.and_eq_true, decide_eq_true_eq] at h
    cases m with
    | nil => simp [rowB, h]
    | cons d t => simp [rowB, h]
  | c :: d :: t, m, h => by
    rw [rowB] at h
    rw [List.cons_append, List.cons_append, rowB]
    by_cases h1 : c.w = 1
    · rw [if_pos h1] at h ⊢
      simp only [Bool.and_eq_true] at h
      rw [← List.cons_append, row_app (d :: t) m h.2, h.1.1, h.1.2]; rfl
    rw [if_neg h1] at h ⊢
    by_cases h2 : c.w = 2
    · rw [if_pos h2] at h ⊢
      simp only [Bool.and_eq_true] at h
      rw [row_app t m h.2, h.1.1.1, h.1.1.2, h.1.2]; rfl
    · rw [if_neg h2] at h; cases h
theorem row_whole : ∀ (rows : Nat) (L : List Cl) (cols : Nat), L.length = rows * cols → validL L rows cols = true → rowB L = true
  | 0, L, cols, hL, _ => by rw [Nat.zero_mul] at hL; rw [List.length_eq_zero_iff.1 hL]; rfl
  | rows + 1, L, cols, hL, hv => by
    unfold validL at hv
    rw [List.all_eq_true] at hv
    have h0 := hv 0 (by simp)
    have e0 : rowL L cols 0 = L.take cols := by simp [rowL]
    rw [e0] at h0
    rw [← List.take_append_drop cols L, row_app _ _ h0]
    refine row_whole rows (L.drop cols) cols (by rw [List.length_drop, hL, Nat.add_mul]; omega) ?_
    unfold validL
    rw [List.all_eq_true]
    intro k hk
    have := hv (k + 1) (by simp at hk ⊢; omega)
    rw [← this]
    congr 1
    unfold rowL
    rw [List.drop_drop, Nat.add_mul, Nat.one_mul, Nat.add_comm]
theorem rowL_len {L : List Cl} {rows cols k : Nat} (hL : L.length = rows * cols) (hk : k < rows) : (rowL L cols k).length = cols := by
  unfold rowL
  rw [List.length_take, List.length_drop, hL]
  have : (k + 1) * cols ≤ rows * cols := Nat.mul_le_mul_right _ hk
  rw [Nat.add_mul, Nat.one_mul] at this
  omega
/-- A screen with a row exchanged. -/
def replR (L : List Cl) (cols k : Nat) (l : List Cl) : List Cl := L.take (k * cols) ++ l ++ L.drop ((k + 1) * cols)
theorem replR_at {L l : List Cl} {rows cols k : Nat} (hL : L.length = rows * cols) (hk : k < rows) (hl : l.length = cols) (j : Nat) : (replR L cols k l)[j]? = if k * cols ≤ j ∧ j < (k + 1) * cols then l[j - k * cols]? else L[j]? := by
  have h1 : (k + 1) * cols ≤ rows * cols := Nat.mul_le_mul_right _ hk
  have h2 : (k + 1) * cols = k * cols + cols := by rw [Nat.add_mul, Nat.one_mul]
  have e1 : (L.take (k * cols)).length = k * cols := by rw [List.length_take]; omega
  unfold replR
  by_cases a : j < k * cols
  · rw [if_neg (by omega), List.append_assoc, List.getElem?_append_left (by omega), List.getElem?_take_of_lt a]
  by_cases b : j < (k + 1) * cols
  · rw [if_pos (by omega), List.getElem?_append_left (by rw [List.length_append]; omega), List.getElem?_append_right (by omega), e1]
  · rw [if_neg (by omega), List.getElem?_append_right (by rw [List.length_append]; omega), List.length_append, e1, hl, List.getElem?_drop]
    congr 1
    omega
theorem put_rows {L : List Cl} {rows cols k i n : Nat} (hL : L.length = rows * cols) (hv : validL L rows cols = true) (hk : k < rows) (hn : n = 1 ∨ n = 2) (hi : i + n ≤ cols) (c : Cl) :
    putL L (k * cols + i) n c = replR L cols k (putL (rowL L cols k) i n c) := by
  have hw := row_whole rows L cols hL hv
  have hr : rowB (rowL L cols k) = true := by unfold validL at hv; rw [List.all_eq_true] at hv; exact hv k (List.mem_range.2 hk)
  have hlen := rowL_len hL hk
  have h1 : (k + 1) * cols ≤ rows * cols := Nat.mul_le_mul_right _ hk
  have h2 : (k + 1) * cols = k * cols + cols := by rw [Nat.add_mul, Nat.one_mul]
  have hg : ∀ q, q < cols → (rowL L cols k).getD q blankC = L.getD (k * cols + q) blankC := fun q hq => by rw [List.getD_eq_getElem?_getD, List.getD_eq_getElem?_getD, rowL_at hq]
  apply List.ext_getElem?
  intro j
  rw [putL_at hw hn (by omega), replR_at hL hk (by rw [put_len, hlen]), putL_at hr hn (by omega)]
  by_cases hj : k * cols ≤ j ∧ j < (k + 1) * cols
  · rw [if_pos hj]
    unfold putAt
    rw [hg i (by omega), hg (i + n - 1) (by omega), rowL_at (by omega), show k * cols + (j - k * cols) = j by omega, show k * cols + (i + n - 1) = k * cols + i + n - 1 by omega]
    simp only [show (j = k * cols + i) = (j - k * cols = i) from propext ⟨fun h => by omega, fun h => by omega⟩, show (j = k * cols + i + 1) = (j - k * cols = i + 1) from propext ⟨fun h => by omega, fun h => by omega⟩, show (j + 1 = k * cols + i) = (j - k * cols + 1 = i) from propext ⟨fun h => by omega, fun h => by omega⟩, show (j = k * cols + i + n) = (j - k * cols = i + n) from propext ⟨fun h => by omega, fun h => by omega⟩]
  · rw [if_neg hj]
    unfold putAt
    rw [if_neg (by omega), if_neg (by omega), if_neg]
    rintro (⟨a, b⟩ | ⟨a, b⟩)
    · have hi0 : i = 0 := by omega
      subst hi0
      have hx : (rowL L cols k)[0]? = some ((rowL L cols k)[0]'(by omega)) := List.getElem?_eq_getElem (by omega)
      have := (row_facts hr 0 _ hx).2.2
      rw [← hg 0 (by omega), getD_some hx] at b
      have := (this b).1
      omega
    · have hi0 : i + n = cols := by omega
      have hx : (rowL L cols k)[i + n - 1]? = some ((rowL L cols k)[i + n - 1]'(by omega)) := List.getElem?_eq_getElem (by omega)
      have h9 := (row_facts hr (i + n - 1) _ hx).2.1
      rw [show k * cols + i + n - 1 = k * cols + (i + n - 1) by omega, ← hg (i + n - 1) (by omega), getD_some hx] at b
      obtain ⟨d, hd, _⟩ := h9 b
      rw [rowL_end (by omega)] at hd
      cases hd
end Go.Proofs.YtmemdhmjhckmaaaDoor
namespace Go.Proofs.YtmemdhmjhckmaaaDoor
open Go.RowKit Go.Shelf

theorem chunk_any (A : Option Addr) (n cap : Nat) (c : Int) (h : 1 ≤ c) (w : World) : Calls Tryd.prog 39 #[.slice A n cap, .int .i64 c] w fun e w' => e = .returned (.func (.func 71) #[] #[.pointer (some ⟨w.heap.size, 0, none⟩), .pointer (some ⟨w.heap.size + 1, 0, none⟩)]) ∧ w' = (w.alloc (.cells #[.slice A n cap] 33)).alloc (.cells #[.int .i64 c] 3) := by
  have h0 : ¬ c < 1 := by omega
  go_enter Tryd.func39, Tryd.ntmps39
  go_wp2
  go_ret
  exact ⟨rfl, rfl⟩
/-- Between two rounds: D the deferred's block, ahead of it the boxes of the iterator, behind it the loop's record. -/
def ChI (w0 : World) (B D : Nat) (o : Obj) (v : Value) (c : Int) (W : World) : Prop :=
  B ≤ D ∧ W.heap[D + 1 + 1 + 1]? = some o ∧ W.heap[D + 1 + 1]? = some (.deferred (some [])) ∧ Boxed W D 33 v ∧ Boxed W (D + 1) 3 (.int .i64 c) ∧ Below B w0 W
theorem ChI.below {w0 W W' : World} {B D : Nat} {o : Obj} {v : Value} {c : Int} (h : ChI w0 B D o v c W) (hb : Below W.heap.size W W') : ChI w0 B D o v c W' := by
  obtain ⟨h0, h1, h2, h3, h4, h5⟩ := h
  have k : ∀ {i : Nat} {u : Obj}, W.heap[i]? = some u → W'.heap[i]? = some u := fun {i u} e => (hb.block i (Array.getElem?_eq_some_iff.1 e).1).trans e
  exact ⟨h0, k h1, k h2, k h3, k h4, h5.trans (hb.mono (by have := (Array.getElem?_eq_some_iff.1 h1).1; omega))⟩
theorem ChI.drewN {w0 W : World} {B D : Nat} {o : Obj} {v : Value} {c : Int} (h : ChI w0 B D o v c W) (n : Nat) : ChI w0 B D o v c (W.drewN n) :=
  h.below (below_drewG (Below.refl _ _) n)
theorem ChI.put {w0 W : World} {B D : Nat} {o : Obj} {v : Value} {c : Int} (h : ChI w0 B D o v c W) (ho : o.isCells = false) (o' : Obj) : ChI w0 B D o' v c (W.putObj (D + 1 + 1 + 1) o') := by
  obtain ⟨h0, h1, h2, h3, h4, h5⟩ := h
  have hlt := (Array.getElem?_eq_some_iff.1 h1).1
  exact ⟨h0, World.putObj_heap_same hlt, (World.putObj_heap_other (by omega)).trans h2, putObj_box h3 h1 ho, putObj_box h4 h1 ho, h5.grown (grownBy_putObj' W (D + 1 + 1 + 1) o') (by omega) (fun k e => by cases e; omega)⟩
/-- Blocks below the deferred's are as they were. -/
theorem ChI.blk {w0 W : World} {B D b : Nat} {o : Obj} {v : Value} {c : Int} {t : TypeId} {cs : List Value} (_ : ChI w0 B D o v c W) (hb : Blk W b t cs) (hlt : b < D) (o' : Obj) : Blk (W.putObj (D + 1 + 1 + 1) o') b t cs :=
  (World.putObj_heap_other (by omega)).trans hb
/-- A store in a block of the function's own. -/
theorem ChI.set {w0 W : World} {B D g : Nat} {o : Obj} {v : Value} {c : Int} (h : ChI w0 B D o v c W) (h1 : B ≤ g) (h2 : g < D) (i : Nat) (x : Value) : ChI w0 B D o v c (W.setCell ⟨g, i, none⟩ x) := by
  obtain ⟨h0, k1, k2, h3, h4, h5⟩ := h
  have k : ∀ {j : Nat} {u : Obj}, W.heap[j]? = some u → g < j → (W.setCell ⟨g, i, none⟩ x).heap[j]? = some u := fun {j u} e hlt => (Below.heap_setCell _ _ _ _ (by simp; omega)).trans e
  exact ⟨h0, k k1 (by omega), k k2 (by omega), k h3 (by omega), k h4 (by omega), h5.setCell (p := ⟨g, i, none⟩) h1 _⟩
theorem ChI.fin {w0 W : World} {D b : Nat} {o : Obj} {v u : Value} {c : Int} {t : TypeId} (h : ChI w0 w0.heap.size D o v c W) (hb : Boxed W b t u) (hlt : b < D) :
    (W.putObj (D + 1 + 1) (.deferred none)).cell? ⟨b, 0, none⟩ = some u ∧ Below w0.heap.size w0 (W.putObj (D + 1 + 1) (.deferred none)) := by
  obtain ⟨h0, k1, k2, h3, h4, h5⟩ := h
  exact ⟨(putObj_box hb k2 rfl).cell, h5.trans (belowK_b (w := w0) (Nat.le_refl _) W _ _ _ (by omega) k2 rfl rfl)⟩
theorem ChI.start (w : World) (v : Value) (c : Int) (rec : Obj) (w0 : World) (B : Nat) (h : Below B w0 w) (hB : B ≤ w.heap.size) :
    ChI w0 B w.heap.size rec v c ((((w.alloc (.cells #[v] 33)).alloc (.cells #[.int .i64 c] 3)).alloc (.deferred (some []))).alloc rec) := by
  refine ⟨hB, ?_, ?_, (((Boxed.new _ _ _).alloc _).alloc _).alloc _, ?_, ?_⟩
  · have := World.alloc_heap_new (((w.alloc (.cells #[v] 33)).alloc (.cells #[.int .i64 c] 3)).alloc (.deferred (some []))) rec
    simpa only [World.size_alloc] using this
  · have := World.alloc_heap_new ((w.alloc (.cells #[v] 33)).alloc (.cells #[.int .i64 c] 3)) (.deferred (some []))
    simp only [World.size_alloc] at this
    exact (Below.heap_alloc _ _ _ (by simp only [World.size_alloc]; omega)).trans this
  · have := ((Boxed.new (w.alloc (.cells #[v] 33)) 3 (.int .i64 c)).alloc (.deferred (some []))).alloc rec
    simpa using this
  · exact (((h.alloc hB _).alloc (by simp; omega) _).alloc (by simp; omega) _).alloc (by simp; omega) _
end Go.Proofs.YtmemdhmjhckmaaaDoor
namespace Go.Proofs.YtmemdhmjhckmaaaDoor
open Go.RowKit Go.Shelf
attribute [local go_sem] Oper.semAt_some

/-- The frame's own cells. -/
def frCells (rows cols : Int) (sv : Value) (row col : Int) : List Value := [.int .i64 rows, .int .i64 cols, sv, .int .i64 row, .int .i64 col]
theorem validF_of {R C : Nat} {cs : List Cl} {row col : Int} (hm : mayB R C = true) (hs : (cs.length : Int) = R * C) (hc : 0 ≤ row ∧ row < R ∧ 0 ≤ col ∧ col < C) : validF ⟨R, C, cs, row, col⟩ = validL cs R C := by
  unfold validF sizeB curB
  simp only [hm, hs, Int.toNat_natCast, Bool.true_and, decide_true]
  rw [decide_eq_true hc, Bool.true_and]
theorem valid_may {f : Fr} (h : mayB f.rows f.cols = false) : validF f = false := by unfold validF; rw [h]; rfl
theorem valid_size {f : Fr} (h : ¬ (f.cs.length : Int) = f.rows * f.cols) : validF f = false := by unfold validF sizeB; rw [decide_eq_false h]; simp
theorem valid_cur {f : Fr} (h : ¬ (0 ≤ f.row ∧ f.row < f.rows ∧ 0 ≤ f.col ∧ f.col < f.cols)) : validF f = false := by unfold validF curB; rw [decide_eq_false h]; simp

set_option maxRecDepth 100000 in
set_option maxHeartbeats 4000000 in
theorem valid_any (f : Fr) (v : Value) (w : World) (h : FrAt w v f) (hT : WTabs w) :
    Calls Tryd.prog 24 #[v] w fun e w' => e = .returned (.bool (validF f)) ∧ Below w.heap.size w w' := by
  have HT := hide hT
  obtain ⟨A, cap, rfl, hn, hcap, hcl⟩ := h
  obtain ⟨rows, cols, cs, row, col⟩ := f
  dsimp only at hn hcap hcl
  obtain ⟨n, hnn⟩ : ∃ n, cs.length = n := ⟨_, rfl⟩
  have HN := hide hnn
  have HCL := hide hcl
  unfold frV
  dsimp only
  rw [hnn] at hn ⊢
  clear hT hcl hnn
  have hmx := hcap
  unfold maxLen at hmx
  refine (callsIn_wide (n := 9)).1 ?_
  refine callsIn_of_wp_marks Tryd.func24 rfl trivial ?_
  simp only [Tryd.ntmps24, List.size_toArray, List.length_cons, List.length_nil, Nat.reduceAdd, Nat.reduceSub, Array.replicate_succ, Array.replicate_zero, List.push_toArray, List.append_toArray, List.nil_append, List.cons_append]
  have HB0 := hide (show Below w.heap.size w ((w.alloc (.cells (frCells rows cols (.slice A n cap) row col).toArray 35)).alloc (.cells #[.bool false] 4)) from ((Below.refl _ _).alloc (Nat.le_refl _) _).alloc (by simp) _)
  by_cases hmay : mayB rows cols = true
  case neg =>
    have HV := hide (valid_may (f := ⟨rows, cols, cs, row, col⟩) (by simpa using hmay))
    have HM := hide (fun W => may_is rows cols false (by simpa using hmay) W)
    clear hmay
    gi_wp2_with (first | (refine ⟨trivial, ?_⟩; gi_at_call 44; refine (callsIn_wide.2 (HM.out _)).mono ?_; rintro e w' ⟨rfl, rfl⟩) | fail)
    refine ⟨.bool false, by simp [results, Tryd.results24, go_sem], ret_bG (by rw [HV.out]), HB0.out⟩
  case pos =>
    have HM := hide (fun W => may_is rows cols true hmay W)
    obtain ⟨m1, m2, m3, m4⟩ := may_t.1 hmay
    have hp0 : 16 ≤ rows * cols := by have := Int.mul_le_mul m1 m3 (by omega) (by omega); omega
    have hp1 : rows * cols ≤ 20000 := by have := Int.mul_le_mul m2 m4 (by omega) (by omega); omega
    obtain ⟨p, hpp⟩ : ∃ p, rows * cols = p := ⟨_, rfl⟩
    have HP0 := hide hpp
    have HMAY := hide hmay
    rw [hpp] at hp0 hp1
    have hwr : IntKind.i64.wrap (rows * cols) = p := by rw [hpp]; simp [IntKind.wrap_i64]; omega
    clear hmay hpp
    by_cases hsz : (n : Int) = p
    case neg =>
      have HV := hide (valid_size (f := ⟨rows, cols, cs, row, col⟩) (by dsimp only; rw [HN.out, HP0.out]; exact hsz))
      gi_wp2_with (first | (refine ⟨trivial, ?_⟩; gi_at_call 44; refine (callsIn_wide.2 (HM.out _)).mono ?_; rintro e w' ⟨rfl, rfl⟩) | fail)
      refine ⟨.bool false, by simp [results, Tryd.results24, go_sem], ret_bG (by rw [HV.out]), HB0.out⟩
    case pos =>
      subst hsz
      by_cases hcur : 0 ≤ row ∧ row < rows ∧ 0 ≤ col ∧ col < cols
      case neg =>
        have HV := hide (valid_cur (f := ⟨rows, cols, cs, row, col⟩) hcur)
        have h4 : row < 0 ∨ (¬ row < 0 ∧ rows ≤ row) ∨ (¬ row < 0 ∧ ¬ rows ≤ row ∧ col < 0) ∨ (¬ row < 0 ∧ ¬ rows ≤ row ∧ ¬ col < 0 ∧ cols ≤ col) := by omega
        clear hcur
        rcases h4 with h4 | ⟨h4, h5⟩ | ⟨h4, h5, h6⟩ | ⟨h4, h5, h6, h7⟩
        all_goals
          gi_wp2_with (first | (refine ⟨trivial, ?_⟩; gi_at_call 44; refine (callsIn_wide.2 (HM.out _)).mono ?_; rintro e w' ⟨rfl, rfl⟩) | fail)
          refine ⟨.bool false, by simp [results, Tryd.results24, go_sem], ret_bG (by rw [HV.out]), HB0.out⟩
      case pos =>
        obtain ⟨c1, c2, c3, c4⟩ := hcur
        obtain ⟨R, rfl⟩ : ∃ R : Nat, rows = R := ⟨rows.toNat, by omega⟩
        obtain ⟨C, rfl⟩ : ∃ C : Nat, cols = C := ⟨cols.toNat, by omega⟩
        have HV := hide (validF_of (cs := cs) HMAY.out (by rw [HN.out, HP0.out]) ⟨c1, c2, c3, c4⟩)
        obtain ⟨b, o, hA, -⟩ := ClsAt.at (j := 0) HCL.out (List.getElem?_eq_getElem (show 0 < cs.length by rw [HN.out]; omega))
        subst hA
        have HNRC := hide (show n = R * C from by have := HP0.out; exact_mod_cast this.symm)
        have d1 : ¬ row < 0 := by omega
        have d2 : ¬ (R : Int) ≤ row := by omega
        have d3 : ¬ col < 0 := by omega
        have d4 : ¬ (C : Int) ≤ col := by omega
        gi_wp2_with (first
          | (refine ⟨trivial, ?_⟩; gi_at_call 44; refine (callsIn_wide.2 (HM.out _)).mono ?_; rintro e w' ⟨rfl, rfl⟩)
          | (refine ⟨trivial, ?_⟩; gi_at_call 39; refine (callsIn_wide.2 (chunk_any _ _ _ _ (by omega) _)).mono ?_; rintro e w' ⟨rfl, rfl⟩)
          | fail)
        rename_i K hK
        obtain ⟨W2, hW2⟩ : ∃ W2, W2 = (w.alloc (.cells #[.int .i64 R, .int .i64 C, .slice (some ⟨b, o, none⟩) n cap, .int .i64 row, .int .i64 col] 35)).alloc (.cells #[.bool false] 4) := ⟨_, rfl⟩
        have hsz2 : W2.heap.size = w.heap.size + 1 + 1 := by rw [hW2]; simp
        have HB2 := hide (show Below w.heap.size w W2 by rw [hW2]; exact HB0.out)
        have HBX := hide (show Boxed W2 (w.heap.size + 1) 4 (.bool false) by
          rw [hW2]
          have := Boxed.new (w.alloc (.cells #[.int .i64 R, .int .i64 C, .slice (some ⟨b, o, none⟩) n cap, .int .i64 row, .int .i64 col] 35)) 4 (.bool false)
          simpa only [World.size_alloc] using this)
        rw [← hW2]
        clear hW2 HB0 HM
        refine range_open rfl (by omega) (gf := 71) (lb := #[.pointer (some ⟨w.heap.size + 1 + 1, 0, none⟩), .pointer (some ⟨w.heap.size + 1 + 1 + 1, 0, none⟩)]) rfl trivial (enters_of Tryd.func71 (by kernel_rfl) rfl) ?_
        intro fn rec hfn hrec
        have HREC := hide hrec
        have HP := hide (show ∀ st pe, (rec st pe).pending = pe ∧ (rec st pe).state = st from fun st pe => by rw [hrec]; exact ⟨rfl, rfl⟩)
        have HRR := hide (show ∀ st pe st' pe', { rec st pe with state := st', pending := pe' } = rec st' pe' from fun st pe st' pe' => by rw [hrec])
        clear hrec
        refine callsIn_of_wp Tryd.func71 rfl trivial ?_
        simp only [Tryd.ntmps71, List.size_toArray, List.length_cons, List.length_nil, Nat.reduceAdd, Nat.reduceSub, Array.replicate_succ, Array.replicate_zero, List.push_toArray, List.append_toArray, List.nil_append, List.cons_append]
        have HI0 := hide (ChI.start W2 (.slice (some ⟨b, o, none⟩) n cap) C (.loop (rec .ready none)) w w.heap.size HB2.out (by omega))
        rw [hsz2] at HI0
        have HBX0 := hide (show Boxed ((((W2.alloc (.cells #[.slice (some ⟨b, o, none⟩) n cap] 33)).alloc (.cells #[.int .i64 C] 3)).alloc (.deferred (some []))).alloc (.loop (rec .ready none))) (w.heap.size + 1) 4 (.bool false) from (((HBX.out.alloc _).alloc _).alloc _).alloc _)
        gi_wp2
        gi_loopw [4] (fun iv wr => ∃ k x : Nat, iv = .int .i64 x ∧ Hid (x = k * C) ∧ k ≤ R ∧ x ≤ n ∧ Hid (ChI w w.heap.size (w.heap.size + 1 + 1) (.loop (rec .ready none)) (.slice (some ⟨b, o, none⟩) n cap) C wr) ∧ Hid (Boxed wr (w.heap.size + 1) 4 (.bool false)) ∧ Hid (∀ j, j < k → rowB (rowL cs C j) = true)) (fun iv _ => n - (intOf iv).toNat)
        case atStart => exact ⟨0, 0, rfl, hide (by simp), by omega, by omega, HI0, HBX0, hide (fun j hj => by omega)⟩
        case round =>
          clear HI0 HBX0
          obtain ⟨k, x, rfl, HX, hk, hx, HI, HBo, HRows⟩ := hrel
          have hcs := HI.out.2.2.2.1.cell
          have hcz := HI.out.2.2.2.2.1.cell
          by_cases hlt : k < R
          · have hxC : x + C ≤ n := by
              have h1 : (k + 1) * C ≤ R * C := Nat.mul_le_mul_right _ hlt
              have h2 := HX.out
              have h3 := HNRC.out
              rw [Nat.add_mul, Nat.one_mul] at h1
              omega
            have hlt2 : x < n := by omega
            clear hk hx
            have hmin : min (C : Int) ((n - x : Nat) : Int) = (C : Int) := by omega
            have hto : ((x : Int) + (C : Int)).toNat - x = C := by omega
            gi_wp2
            gi_region
            have hI2 := HI.out.drewN 1
            have hB2 := HBo.out
            obtain ⟨W0, hW0⟩ : ∃ W0, wr.drew = W0 := ⟨_, rfl⟩
            rw [show wr.drewN 1 = W0 from hW0] at hI2
            replace hB2 : Boxed W0 (w.heap.size + 1) 4 (.bool false) := by rw [← hW0]; exact hB2
            rw [hW0]
            have hcs := hI2.2.2.2.1.cell
            have hcz := hI2.2.2.2.2.1.cell
            have HI2 := hide hI2
            have hy := fun u => run_yield (P := Tryd.prog) (args := #[u]) hI2.2.1 (by rw [HREC.out]; rfl)
            clear hI2 hW0
            gi_wp2
            clear hmin hto
            have HSL := hide (show ∀ W, Below w.heap.size w W → SlC W (.slice (some ⟨b, o + x * 6, none⟩) C C) (rowL cs C k) from fun W hW => by
              refine ⟨_, C, C, rfl, ?_, Nat.le_refl _, by unfold maxLen; omega, ?_⟩
              · rw [rowL_len (rows := R) (by rw [HN.out, HNRC.out]) hlt]
              · have := (show ClsAt W _ _ from HCL.out.below hW).sub (k * C) C
                rw [← HX.out] at this
                unfold rowL
                rw [← HX.out]
                exact this)
            refine round_at (a1 := ?_) HI2.out.2.1 (HP.out _ _).2 (by rw [HREC.out]; exact hfn) ?_ ?_
            rotate_left
            · intro K9 hK9
              rw [HREC.out]
              gi_wp2
              exact hK9
            · rw [rec_state HRR.out HP.out]
              have hI3 := HI2.out.put rfl (.loop (rec .busy none))
              have hB3 : Boxed (W0.putObj (w.heap.size + 1 + 1 + 1 + 1 + 1) (.loop (rec .busy none))) (w.heap.size + 1) 4 (.bool false) := putObj_box hB2 HI2.out.2.1 rfl
              obtain ⟨WB, hWB⟩ : ∃ WB, W0.putObj (w.heap.size + 1 + 1 + 1 + 1 + 1) (.loop (rec .busy none)) = WB := ⟨_, rfl⟩
              rw [hWB] at hI3 hB3 ⊢
              have HI3 := hide hI3
              have HB3 := hide hB3
              obtain ⟨q, hq⟩ : ∃ q, rowB (rowL cs C k) = q := ⟨_, rfl⟩
              have HR := hide (row_any (rowL cs C k) _ WB (HSL.out _ hI3.2.2.2.2.2) (HT.out.below hI3.2.2.2.2.2))
              rw [hq] at HR
              have HQ := hide hq
              clear hI3 hy hWB hB3 hq
              rw [HREC.out]
              cases q with
              | true =>
                gi_wp2_with (refine ⟨trivial, ?_⟩; gi_at_call 45; refine (CallsIn.inRound _ (callsIn_wide.2 HR.out)).mono ?_; rintro e w1 ⟨rfl, hb1⟩)
                have hI5 := HI3.out.below hb1
                have hB5 : Boxed w1 (w.heap.size + 1) 4 (.bool false) := (hb1.block _ HB3.out.lt).trans HB3.out
                refine ⟨_, _, round_end HRR.out hI5.2.1 none, ?_⟩
                have hI6 := hI5.put rfl (.loop (rec .ready none))
                have hB6 := putObj_box (o' := .loop (rec .ready none)) hB5 hI5.2.1 rfl
                simp only [Option.isNone_none, if_true]
                obtain ⟨WF, hWF⟩ : ∃ WF, w1.putObj (w.heap.size + 1 + 1 + 1 + 1 + 1) (.loop (rec .ready none)) = WF := ⟨_, rfl⟩
                rw [hWF] at hI6 hB6 ⊢
                have hcz2 := hI6.2.2.2.2.1.cell
                have HI6 := hide hI6
                have HB6 := hide hB6
                clear hI5 hB5 hWF hI6 hB6 hb1
                gi_wp2
                go_roundw
                case rel => exact ⟨k + 1, x + C, by go_num, hide (by have := HX.out; rw [Nat.add_mul, Nat.one_mul]; omega), by omega, by omega, HI6, HB6, hide (fun j hj => by rcases Nat.lt_succ_iff_lt_or_eq.1 hj with h | rfl; exact HRows.out j h; exact HQ.out)⟩
                case measure => simp [intOf]; omega
              | false =>
                gi_wp2_with (refine ⟨trivial, ?_⟩; gi_at_call 45; refine (CallsIn.inRound _ (callsIn_wide.2 HR.out)).mono ?_; rintro e w1 ⟨rfl, hb1⟩; have hI5 := HI3.out.below hb1; have hB5 : Boxed w1 (w.heap.size + 1) 4 (.bool false) := (hb1.block _ HB3.out.lt).trans HB3.out; have hc5 := hB5.cell; have hf5 := hB5.frozen)
                have hI6 := hI5.set (g := w.heap.size + 1) (by omega) (by omega) 0 (.bool false)
                refine ⟨_, _, round_end HRR.out hI6.2.1 (some .ret), ?_⟩
                have hB6 : Boxed (w1.setCell ⟨w.heap.size + 1, 0, none⟩ (.bool false)) (w.heap.size + 1) 4 (.bool false) := hB5.set _
                have hI7 := hI6.put rfl (.loop (rec .done (some .ret)))
                have hB7 := putObj_box (o' := .loop (rec .done (some .ret))) hB6 hI6.2.1 rfl
                obtain ⟨WD, hWD⟩ : ∃ WD, (w1.setCell ⟨w.heap.size + 1, 0, none⟩ (.bool false)).putObj (w.heap.size + 1 + 1 + 1 + 1 + 1) (.loop (rec .done (some .ret))) = WD := ⟨_, rfl⟩
                rw [hWD] at hI7 hB7
                simp only [Option.isNone_some, Bool.false_eq_true, if_false, hWD]
                have HI7 := hide hI7
                have HB7 := hide hB7
                clear hI5 hI6 hI7 hB5 hB6 hB7 hb1 hWD hc5 hf5
                gi_wp2
                refine bodyPost_ret (results_none rfl _ _ _) rfl ?_
                obtain ⟨o', ho'⟩ := end_ex (P := Tryd.prog) (pe := some .ret) HI7.out.2.1 (by rw [(HP.out _ _).2]; simp) (HP.out _ _).1
                refine ⟨_, _, ho', ?_⟩
                have hE := HI7.out.put rfl o'
                have hB8 := putObj_box (o' := o') HB7.out HI7.out.2.1 rfl
                clear ho'
                dsimp only
                obtain ⟨WE, hWE⟩ : ∃ WE, WD.putObj (w.heap.size + 1 + 1 + 1 + 1 + 1) o' = WE := ⟨_, rfl⟩
                rw [hWE] at hE hB8 ⊢
                clear hWE
                have HE := hide hE
                have HB8 := hide hB8
                clear hE hB8
                gi_wp2
                refine ⟨by simp, .inl ⟨_, _, rfl, run_takeDeferred HE.out.2.2.1, ?_⟩⟩
                obtain ⟨r0, r1⟩ := HE.out.fin HB8.out (by omega)
                exact ⟨.bool false, by simp [results, Tryd.results24, go_sem, r0], ret_bG (by rw [HV.out]; refine (Bool.eq_false_iff.2 fun h => ?_).symm; unfold validL at h; rw [List.all_eq_true] at h; have := h k (List.mem_range.2 hlt); rw [HQ.out] at this; cases this), r1⟩
          · obtain rfl : k = R := by omega
            have hxn : x = n := by have := HX.out; have := HNRC.out; omega
            have HVL := hide (show validL cs k C = true by unfold validL; rw [List.all_eq_true]; intro j hj; exact HRows.out j (List.mem_range.1 hj))
            subst hxn
            gi_wp2
            go_end0
            obtain ⟨o', ho'⟩ := end_ex (P := Tryd.prog) (pe := none) HI.out.2.1 (by rw [(HP.out _ _).2]; simp) (HP.out _ _).1
            refine ⟨_, _, ho', ?_⟩
            have hE := HI.out.put rfl o'
            have hB5 := putObj_box (o' := o') HBo.out HI.out.2.1 rfl
            clear ho'
            dsimp only
            refine hK _ _ ?_
            obtain ⟨WE, hWE⟩ : ∃ WE, wr.putObj (w.heap.size + 1 + 1 + 1 + 1 + 1) o' = WE := ⟨_, rfl⟩
            rw [hWE] at hE hB5 ⊢
            clear hWE
            have hc1 := hB5.cell
            have hf1 := hB5.frozen
            have HE := hide hE
            have HB5 := hide hB5
            clear hE hB5
            gi_wp2
            refine ⟨by simp, .inl ⟨_, _, rfl, run_takeDeferred (HE.out.set (g := w.heap.size + 1) (by omega) (by omega) 0 (.bool true)).2.2.1, ?_⟩⟩
            obtain ⟨r0, r1⟩ := (HE.out.set (g := w.heap.size + 1) (by omega) (by omega) 0 (.bool true)).fin (HB5.out.set _) (by omega)
            exact ⟨.bool true, by simp [results, Tryd.results24, go_sem, r0], ret_bG (by rw [HV.out, HVL.out]), r1⟩
end Go.Proofs.YtmemdhmjhckmaaaDoor
