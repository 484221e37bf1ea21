/- Plain: the document's way of putting a rune is the program's; rows that are joined. No program in sight. slices.Chunk of a screen's cells; what holds between two rounds of a range over it. Contract of grids.Valid: a range over slices.Chunk. Contracts of limnerref02.among and Of. Contract of limnerref06.Valid: cell by cell. Contracts of slices.Equal of cells, grids.Same and limnerref06.Same. copy of slices of elements of several cells. Contracts of grids.clone and limnerref06.Copy. Contract of limnerref06.Copy. Contract of grids.wipe. Contract of limnerref06.mend. Plain: a frame with a rune put in. No program in sight. What Put of both sides shares: the frame, the style and the answer in their boxes; a frame whose slice the call made, laid open. Plain: a frame in another size. No program in sight. Contracts of grids.New and limnerref06.New. Where a layout's sheet lies; what changes when it grows. -/
import Derived.Test.YtmpajkfbiocmiaaDoorZ1
import Derived.Laws.CopyOwn
import Derived.Deep.RegionLawGrows
import Derived.BigQuiet
import Derived.Deep.QuietTactic
namespace Go.Proofs.YtmpajkfbiocmiaaDoor

theorem blankN_at {l : List Cl} {i n : Nat} (hn : n = 1 ∨ n = 2) (hi : i + n ≤ l.length) (j : Nat) : (blankN l i n)[j]? = if i ≤ j ∧ j < i + n then some blankC else l[j]? := by
  rcases hn with rfl | rfl
  · unfold blankN
    rw [if_neg (by omega), List.getElem?_set]
    by_cases e : i = j
    · subst e; rw [if_pos rfl, if_pos (by omega), if_pos (by omega)]
    · rw [if_neg e, if_neg (by omega)]
  · unfold blankN
    rw [if_pos rfl, List.getElem?_set]
    by_cases e : i + 1 = j
    · subst e; rw [if_pos rfl, if_pos (by simp; omega), if_pos (by omega)]
    · rw [if_neg e, List.getElem?_set]
      by_cases e2 : i = j
      · subst e2; rw [if_pos rfl, if_pos (by omega), if_pos (by omega)]
      · rw [if_neg e2, if_neg (by omega)]
theorem blankN_len (l : List Cl) (i n : Nat) : (blankN l i n).length = l.length := by unfold blankN; split <;> simp
theorem putD_at {l : List Cl} (h : rowB l = true) {i n : Nat} (hn : n = 1 ∨ n = 2) (hi : i + n ≤ l.length) (c : Cl) (j : Nat) : (putD l i n c)[j]? = putAt l i n c j := by
  have hm : ∀ j, (mendL none (blankN l i n))[j]? = _ := fun j => mendL_at (blankN l i n) none j
  have hml : (mendL none (blankN l i n)).length = l.length := by rw [mend_len, blankN_len]
  have core : ∀ j, ¬ (i ≤ j ∧ j < i + n) → (mendL none (blankN l i n))[j]? = if (j + 1 = i ∧ (l.getD i blankC).w = 0) ∨ (j = i + n ∧ (l.getD (i + n - 1) blankC).w = 2) then some blankC else l[j]? := by
    intro j hj
    have hb := blankN_at hn hi j
    rw [if_neg hj] at hb
    rw [hm j, hb]
    have L1 : j = i + n → (blankN l i n)[j - 1]? = some blankC := fun e => by rw [blankN_at hn hi, if_pos (show i ≤ j - 1 ∧ j - 1 < i + n by omega)]
    have R1 : ¬ j + 1 = i → (blankN l i n)[j + 1]? = l[j + 1]? := fun e => by rw [blankN_at hn hi, if_neg (show ¬ (i ≤ j + 1 ∧ j + 1 < i + n) by omega)]
    have L2 : ¬ j = i + n → (if j = 0 then none else (blankN l i n)[j - 1]?) = if j = 0 then none else l[j - 1]? := fun e => by
      split
      · rfl
      · rw [blankN_at hn hi, if_neg (show ¬ (i ≤ j - 1 ∧ j - 1 < i + n) by omega)]
    have R2 : j + 1 = i → (blankN l i n)[j + 1]? = some blankC := fun e => by rw [blankN_at hn hi, if_pos (show i ≤ j + 1 ∧ j + 1 < i + n by omega)]
    have Z1 : j = i + n → ¬ j = 0 := fun e => by omega
    have Z2 : j = i + n → j - 1 = i + n - 1 ∧ i + n - 1 + 1 = j ∧ ¬ j + 1 = i := fun e => by omega
    have Z3 : j + 1 = i → i - 1 = j ∧ ¬ j = i + n := fun e => by omega
    have Z4 : l.length ≤ j → ¬ j + 1 = i ∧ (j = i + n → i + n - 1 + 1 = j) := fun e => by omega
    have Z5 : i < l.length ∧ i + n - 1 < l.length := by omega
    have hx := List.getElem?_eq_getElem Z5.1
    have hy := List.getElem?_eq_getElem Z5.2
    rw [getD_some hx, getD_some hy]
    have x3 := (row_facts h i _ hx).2.2
    have y2 := (row_facts h (i + n - 1) _ hy).2.1
    cases hc : l[j]? with
    | none =>
      have hlj := List.getElem?_eq_none_iff.1 hc
      rw [Option.map_none, if_neg]
      rintro (⟨e, _⟩ | ⟨e, h2⟩)
      · exact (Z4 hlj).1 e
      · obtain ⟨d, hd, _⟩ := y2 h2
        rw [(Z4 hlj).2 e, hc] at hd
        cases hd
    | some z =>
      have hz := row_facts h j z hc
      have hk := mend_keep h hc
      rw [Option.map_some]
      by_cases e1 : j = i + n
      · rw [if_neg (Z1 e1), L1 e1, R1 (Z2 e1).2.2]
        have hiff : z.w = 0 ↔ (l[i + n - 1]'Z5.2).w = 2 := by
          constructor
          · intro h0
            obtain ⟨_, d, hd, hd2⟩ := hz.2.2 h0
            rw [(Z2 e1).1, hy] at hd
            injection hd with hd
            rw [hd]; exact hd2
          · intro h2
            obtain ⟨d, hd, hd2⟩ := y2 h2
            rw [(Z2 e1).2.1, hc] at hd
            injection hd with hd
            rw [hd]; exact hd2
        unfold mendAt
        by_cases h0 : z.w = 0
        · rw [if_pos (.inr ⟨h0, by simp [blank_w]⟩), if_pos (.inr ⟨e1, hiff.1 h0⟩)]
        · rw [if_neg, if_neg]
          · rintro (⟨a, _⟩ | ⟨_, b⟩)
            · exact (Z2 e1).2.2 a
            · exact h0 (hiff.2 b)
          · rintro (⟨a, b⟩ | ⟨a, _⟩)
            · obtain ⟨d, hd, hd2⟩ := hz.2.1 a
              rw [hd] at b
              simp [hd2] at b
            · exact h0 a
      by_cases e2 : j + 1 = i
      · rw [L2 (Z3 e2).2, R2 e2]
        have hiff : z.w = 2 ↔ (l[i]'Z5.1).w = 0 := by
          constructor
          · intro h2
            obtain ⟨d, hd, hd2⟩ := hz.2.1 h2
            rw [e2, hx] at hd
            injection hd with hd
            rw [hd]; exact hd2
          · intro h0
            obtain ⟨_, d, hd, hd2⟩ := x3 h0
            rw [(Z3 e2).1, hc] at hd
            injection hd with hd
            rw [hd]; exact hd2
        unfold mendAt
        by_cases h0 : z.w = 2
        · rw [if_pos (.inl ⟨h0, by simp [blank_w]⟩), if_pos (.inl ⟨e2, hiff.1 h0⟩)]
        · rw [if_neg, if_neg]
          · rintro (⟨_, b⟩ | ⟨b, _⟩)
            · exact h0 (hiff.2 b)
            · exact (Z3 e2).2 b
          · rintro (⟨a, b⟩ | ⟨a, b⟩)
            · exact h0 a
            · obtain ⟨hj1, d, hd, hd2⟩ := hz.2.2 a
              rw [if_neg (Nat.ne_of_gt hj1), hd] at b
              simp [hd2] at b
      · rw [L2 e1, R1 e2, hk, if_neg]
        rintro (⟨a, _⟩ | ⟨a, _⟩)
        · exact e2 a
        · exact e1 a
  rcases hn with rfl | rfl
  · unfold putD putAt
    rw [if_neg (by omega), List.getElem?_set]
    by_cases e : i = j
    · subst e; rw [if_pos rfl, if_pos (by omega), if_pos rfl]
    · rw [if_neg e, if_neg (show ¬ j = i from fun h => e h.symm), if_neg (show ¬ (1 = 2 ∧ j = i + 1) by omega), core j (by omega)]
  · unfold putD putAt
    rw [if_pos rfl, List.getElem?_set]
    by_cases e : i + 1 = j
    · subst e; rw [if_pos rfl, if_pos (by rw [List.length_set]; omega), if_neg (show ¬ i + 1 = i by omega), if_pos ⟨rfl, rfl⟩]
    · rw [if_neg e, List.getElem?_set]
      by_cases e2 : i = j
      · subst e2; rw [if_pos rfl, if_pos (by omega), if_pos rfl]
      · rw [if_neg e2, if_neg (show ¬ j = i from fun h => e2 h.symm), if_neg (show ¬ (2 = 2 ∧ j = i + 1) by omega), core j (by omega)]
theorem putD_eq {l : List Cl} (h : rowB l = true) {i n : Nat} (hn : n = 1 ∨ n = 2) (hi : i + n ≤ l.length) (c : Cl) : putD l i n c = putL l i n c := by
  apply List.ext_getElem?
  intro j
  rw [putD_at h hn hi, putL_at h hn hi]

theorem row_app : ∀ (l m : List Cl), rowB l = true → rowB (l ++ m) = rowB m
  | [], m, _ => rfl
  | [c], m, h => by
    simp only [rowB, Bool.and_eq_true, decide_eq_true_eq] at h
    cases m with
    | nil => simp [rowB, h]
    | cons d t => simp [rowB, h]
  | c :: d :: t, m, h => by
    rw [rowB] at h
    rw [List.cons_append, List.cons_append, rowB]
    by_cases h1 : c.w = 1
    · rw [if_pos h1] at h ⊢
      simp only [Bool.and_eq_true] at h
      rw [← List.cons_append, row_app (d :: t) m h.2, h.1.1, h.1.2]; rfl
    rw [if_neg h1] at h ⊢
    by_cases h2 : c.w = 2
    · rw [if_pos h2] at h ⊢
      simp only [Bool.and_eq_true] at h
      rw [row_app t m h.2, h.1.1.1, h.1.1.2, h.1.2]; rfl
    · rw [if_neg h2] at h; cases h
theorem row_whole : ∀ (rows : Nat) (L : List Cl) (cols : Nat), L.length = rows * cols → validL L rows cols = true → rowB L = true
  | 0, L, cols, hL, _ => by rw [Nat.zero_mul] at hL; rw [List.length_eq_zero_iff.1 hL]; rfl
  | rows + 1, L, cols, hL, hv => by
    unfold validL at hv
    rw [List.all_eq_true] at hv
    have h0 := hv 0 (by simp)
    have e0 : rowL L cols 0 = L.take cols := by simp [rowL]
    rw [e0] at h0
    rw [← List.take_append_drop cols L, row_app _ _ h0]
    refine row_whole rows (L.drop cols) cols (by rw [List.length_drop, hL, Nat.add_mul]; omega) ?_
    unfold validL
    rw [List.all_eq_true]
    intro k hk
    have := hv (k + 1) (by simp at hk ⊢; omega)
    rw [← this]
    congr 1
    unfold rowL
    rw [List.drop_drop, Nat.add_mul, Nat.one_mul, Nat.add_comm]
theorem rowL_len {L : List Cl} {rows cols k : Nat} (hL : L.length = rows * cols) (hk : k < rows) : (rowL L cols k).length = cols := by
  unfold rowL
  rw [List.length_take, List.length_drop, hL]
  have : (k + 1) * cols ≤ rows * cols := Nat.mul_le_mul_right _ hk
  rw [Nat.add_mul, Nat.one_mul] at this
  omega
/-- A screen with a row exchanged. -/
def replR (L : List Cl) (cols k : Nat) (l : List Cl) : List Cl := L.take (k * cols) ++ l ++ L.drop ((k + 1) * cols)
theorem replR_at {L l : List Cl} {rows cols k : Nat} (hL : L.length = rows * cols) (hk : k < rows) (hl : l.length = cols) (j : Nat) : (replR L cols k l)[j]? = if k * cols ≤ j ∧ j < (k + 1) * cols then l[j - k * cols]? else L[j]? := by
  have h1 : (k + 1) * cols ≤ rows * cols := Nat.mul_le_mul_right _ hk
  have h2 : (k + 1) * cols = k * cols + cols := by rw [Nat.add_mul, Nat.one_mul]
  have e1 : (L.take (k * cols)).length = k * cols := by rw [List.length_take]; omega
  unfold replR
  by_cases a : j < k * cols
  · rw [if_neg (by omega), List.append_assoc, List.getElem?_append_left (by omega), List.getElem?_take_of_lt a]
  by_cases b : j < (k + 1) * cols
  · rw [if_pos (by omega), List.getElem?_append_left (by rw [List.length_append]; omega), List.getElem?_append_right (by omega), e1]
  · rw [if_neg (by omega), List.getElem?_append_right (by rw [List.length_append]; omega), List.length_append, e1, hl, List.getElem?_drop]
    congr 1
    omega
theorem put_rows {L : List Cl} {rows cols k i n : Nat} (hL : L.length = rows * cols) (hv : validL L rows cols = true) (hk : k < rows) (hn : n = 1 ∨ n = 2) (hi : i + n ≤ cols) (c : Cl) :
    putL L (k * cols + i) n c = replR L cols k (putL (rowL L cols k) i n c) := by
  have hw := row_whole rows L cols hL hv
  have hr : rowB (rowL L cols k) = true := by unfold validL at hv; rw [List.all_eq_true] at hv; exact hv k (List.mem_range.2 hk)
  have hlen := rowL_len hL hk
  have h1 : (k + 1) * cols ≤ rows * cols := Nat.mul_le_mul_right _ hk
  have h2 : (k + 1) * cols = k * cols + cols := by rw [Nat.add_mul, Nat.one_mul]
  have hg : ∀ q, q < cols → (rowL L cols k).getD q blankC = L.getD (k * cols + q) blankC := fun q hq => by rw [List.getD_eq_getElem?_getD, List.getD_eq_getElem?_getD, rowL_at hq]
  apply List.ext_getElem?
  intro j
  rw [putL_at hw hn (by omega), replR_at hL hk (by rw [put_len, hlen]), putL_at hr hn (by omega)]
  by_cases hj : k * cols ≤ j ∧ j < (k + 1) * cols
  · rw [if_pos hj]
    unfold putAt
    rw [hg i (by omega), hg (i + n - 1) (by omega), rowL_at (by omega), show k * cols + (j - k * cols) = j by omega, show k * cols + (i + n - 1) = k * cols + i + n - 1 by omega]
    simp only [show (j = k * cols + i) = (j - k * cols = i) from propext ⟨fun h => by omega, fun h => by omega⟩, show (j = k * cols + i + 1) = (j - k * cols = i + 1) from propext ⟨fun h => by omega, fun h => by omega⟩, show (j + 1 = k * cols + i) = (j - k * cols + 1 = i) from propext ⟨fun h => by omega, fun h => by omega⟩, show (j = k * cols + i + n) = (j - k * cols = i + n) from propext ⟨fun h => by omega, fun h => by omega⟩]
  · rw [if_neg hj]
    unfold putAt
    rw [if_neg (by omega), if_neg (by omega), if_neg]
    rintro (⟨a, b⟩ | ⟨a, b⟩)
    · have hi0 : i = 0 := by omega
      subst hi0
      have hx : (rowL L cols k)[0]? = some ((rowL L cols k)[0]'(by omega)) := List.getElem?_eq_getElem (by omega)
      have := (row_facts hr 0 _ hx).2.2
      rw [← hg 0 (by omega), getD_some hx] at b
      have := (this b).1
      omega
    · have hi0 : i + n = cols := by omega
      have hx : (rowL L cols k)[i + n - 1]? = some ((rowL L cols k)[i + n - 1]'(by omega)) := List.getElem?_eq_getElem (by omega)
      have h9 := (row_facts hr (i + n - 1) _ hx).2.1
      rw [show k * cols + i + n - 1 = k * cols + (i + n - 1) by omega, ← hg (i + n - 1) (by omega), getD_some hx] at b
      obtain ⟨d, hd, _⟩ := h9 b
      rw [rowL_end (by omega)] at hd
      cases hd
end Go.Proofs.YtmpajkfbiocmiaaDoor
namespace Go.Proofs.YtmpajkfbiocmiaaDoor
open Go.RowKit Go.Shelf

theorem chunk_any (A : Option Addr) (n cap : Nat) (c : Int) (h : 1 ≤ c) (w : World) : Calls Tryd.prog 13 #[.slice A n cap, .int .i64 c] w fun e w' => e = .returned (.func (.func 25) #[] #[.pointer (some ⟨w.heap.size, 0, none⟩), .pointer (some ⟨w.heap.size + 1, 0, none⟩)]) ∧ w' = (w.alloc (.cells #[.slice A n cap] 29)).alloc (.cells #[.int .i64 c] 3) := by
  have h0 : ¬ c < 1 := by omega
  go_enter Tryd.func13, Tryd.ntmps13
  go_wp2
  go_ret
  exact ⟨rfl, rfl⟩
/-- Between two rounds: D the deferred's block, ahead of it the boxes of the iterator, behind it the loop's record. -/
def ChI (w0 : World) (B D : Nat) (o : Obj) (v : Value) (c : Int) (W : World) : Prop :=
  B ≤ D ∧ W.heap[D + 1 + 1 + 1]? = some o ∧ W.heap[D + 1 + 1]? = some (.deferred (some [])) ∧ Boxed W D 29 v ∧ Boxed W (D + 1) 3 (.int .i64 c) ∧ Below B w0 W
theorem ChI.below {w0 W W' : World} {B D : Nat} {o : Obj} {v : Value} {c : Int} (h : ChI w0 B D o v c W) (hb : Below W.heap.size W W') : ChI w0 B D o v c W' := by
  obtain ⟨h0, h1, h2, h3, h4, h5⟩ := h
  have k : ∀ {i : Nat} {u : Obj}, W.heap[i]? = some u → W'.heap[i]? = some u := fun {i u} e => (hb.block i (Array.getElem?_eq_some_iff.1 e).1).trans e
  exact ⟨h0, k h1, k h2, k h3, k h4, h5.trans (hb.mono (by have := (Array.getElem?_eq_some_iff.1 h1).1; omega))⟩
theorem ChI.drewN {w0 W : World} {B D : Nat} {o : Obj} {v : Value} {c : Int} (h : ChI w0 B D o v c W) (n : Nat) : ChI w0 B D o v c (W.drewN n) :=
  h.below (below_drewG (Below.refl _ _) n)
theorem ChI.put {w0 W : World} {B D : Nat} {o : Obj} {v : Value} {c : Int} (h : ChI w0 B D o v c W) (ho : o.isCells = false) (o' : Obj) : ChI w0 B D o' v c (W.putObj (D + 1 + 1 + 1) o') := by
  obtain ⟨h0, h1, h2, h3, h4, h5⟩ := h
  have hlt := (Array.getElem?_eq_some_iff.1 h1).1
  exact ⟨h0, World.putObj_heap_same hlt, (World.putObj_heap_other (by omega)).trans h2, putObj_box h3 h1 ho, putObj_box h4 h1 ho, h5.grown (grownBy_putObj' W (D + 1 + 1 + 1) o') (by omega) (fun k e => by cases e; omega)⟩
/-- Blocks below the deferred's are as they were. -/
theorem ChI.blk {w0 W : World} {B D b : Nat} {o : Obj} {v : Value} {c : Int} {t : TypeId} {cs : List Value} (_ : ChI w0 B D o v c W) (hb : Blk W b t cs) (hlt : b < D) (o' : Obj) : Blk (W.putObj (D + 1 + 1 + 1) o') b t cs :=
  (World.putObj_heap_other (by omega)).trans hb
/-- A store in a block of the function's own. -/
theorem ChI.set {w0 W : World} {B D g : Nat} {o : Obj} {v : Value} {c : Int} (h : ChI w0 B D o v c W) (h1 : B ≤ g) (h2 : g < D) (i : Nat) (x : Value) : ChI w0 B D o v c (W.setCell ⟨g, i, none⟩ x) := by
  obtain ⟨h0, k1, k2, h3, h4, h5⟩ := h
  have k : ∀ {j : Nat} {u : Obj}, W.heap[j]? = some u → g < j → (W.setCell ⟨g, i, none⟩ x).heap[j]? = some u := fun {j u} e hlt => (Below.heap_setCell _ _ _ _ (by simp; omega)).trans e
  exact ⟨h0, k k1 (by omega), k k2 (by omega), k h3 (by omega), k h4 (by omega), h5.setCell (p := ⟨g, i, none⟩) h1 _⟩
theorem ChI.fin {w0 W : World} {D b : Nat} {o : Obj} {v u : Value} {c : Int} {t : TypeId} (h : ChI w0 w0.heap.size D o v c W) (hb : Boxed W b t u) (hlt : b < D) :
    (W.putObj (D + 1 + 1) (.deferred none)).cell? ⟨b, 0, none⟩ = some u ∧ Below w0.heap.size w0 (W.putObj (D + 1 + 1) (.deferred none)) := by
  obtain ⟨h0, k1, k2, h3, h4, h5⟩ := h
  exact ⟨(putObj_box hb k2 rfl).cell, h5.trans (belowK_b (w := w0) (Nat.le_refl _) W _ _ _ (by omega) k2 rfl rfl)⟩
theorem ChI.start (w : World) (v : Value) (c : Int) (rec : Obj) (w0 : World) (B : Nat) (h : Below B w0 w) (hB : B ≤ w.heap.size) :
    ChI w0 B w.heap.size rec v c ((((w.alloc (.cells #[v] 29)).alloc (.cells #[.int .i64 c] 3)).alloc (.deferred (some []))).alloc rec) := by
  refine ⟨hB, ?_, ?_, (((Boxed.new _ _ _).alloc _).alloc _).alloc _, ?_, ?_⟩
  · have := World.alloc_heap_new (((w.alloc (.cells #[v] 29)).alloc (.cells #[.int .i64 c] 3)).alloc (.deferred (some []))) rec
    simpa only [World.size_alloc] using this
  · have := World.alloc_heap_new ((w.alloc (.cells #[v] 29)).alloc (.cells #[.int .i64 c] 3)) (.deferred (some []))
    simp only [World.size_alloc] at this
    exact (Below.heap_alloc _ _ _ (by simp only [World.size_alloc]; omega)).trans this
  · have := ((Boxed.new (w.alloc (.cells #[v] 29)) 3 (.int .i64 c)).alloc (.deferred (some []))).alloc rec
    simpa using this
  · exact (((h.alloc hB _).alloc (by simp; omega) _).alloc (by simp; omega) _).alloc (by simp; omega) _
end Go.Proofs.YtmpajkfbiocmiaaDoor
namespace Go.Proofs.YtmpajkfbiocmiaaDoor
open Go.RowKit Go.Shelf
attribute [local go_sem] Oper.semAt_some

/-- The frame's own cells. -/
def frCells (rows cols : Int) (sv : Value) (row col : Int) : List Value := [.int .i64 rows, .int .i64 cols, sv, .int .i64 row, .int .i64 col]
theorem validF_of {R C : Nat} {cs : List Cl} {row col : Int} (hm : mayB R C = true) (hs : (cs.length : Int) = R * C) (hc : 0 ≤ row ∧ row < R ∧ 0 ≤ col ∧ col < C) : validF ⟨R, C, cs, row, col⟩ = validL cs R C := by
  unfold validF sizeB curB
  simp only [hm, hs, Int.toNat_natCast, Bool.true_and, decide_true]
  rw [decide_eq_true hc, Bool.true_and]
theorem valid_may {f : Fr} (h : mayB f.rows f.cols = false) : validF f = false := by unfold validF; rw [h]; rfl
theorem valid_size {f : Fr} (h : ¬ (f.cs.length : Int) = f.rows * f.cols) : validF f = false := by unfold validF sizeB; rw [decide_eq_false h]; simp
theorem valid_cur {f : Fr} (h : ¬ (0 ≤ f.row ∧ f.row < f.rows ∧ 0 ≤ f.col ∧ f.col < f.cols)) : validF f = false := by unfold validF curB; rw [decide_eq_false h]; simp

set_option maxRecDepth 100000 in
set_option maxHeartbeats 4000000 in
theorem valid_any (f : Fr) (v : Value) (w : World) (h : FrAt w v f) (hT : WTabs w) :
    Calls Tryd.prog 8 #[v] w fun e w' => e = .returned (.bool (validF f)) ∧ Below w.heap.size w w' := by
  have HT := hide hT
  obtain ⟨A, cap, rfl, hn, hcap, hcl⟩ := h
  obtain ⟨rows, cols, cs, row, col⟩ := f
  dsimp only at hn hcap hcl
  obtain ⟨n, hnn⟩ : ∃ n, cs.length = n := ⟨_, rfl⟩
  have HN := hide hnn
  have HCL := hide hcl
  unfold frV
  dsimp only
  rw [hnn] at hn ⊢
  clear hT hcl hnn
  have hmx := hcap
  unfold maxLen at hmx
  refine (callsIn_wide (n := 9)).1 ?_
  refine callsIn_of_wp_marks Tryd.func8 rfl trivial ?_
  simp only [Tryd.ntmps8, List.size_toArray, List.length_cons, List.length_nil, Nat.reduceAdd, Nat.reduceSub, Array.replicate_succ, Array.replicate_zero, List.push_toArray, List.append_toArray, List.nil_append, List.cons_append]
  have HB0 := hide (show Below w.heap.size w ((w.alloc (.cells (frCells rows cols (.slice A n cap) row col).toArray 31)).alloc (.cells #[.bool false] 4)) from ((Below.refl _ _).alloc (Nat.le_refl _) _).alloc (by simp) _)
  by_cases hmay : mayB rows cols = true
  case neg =>
    have HV := hide (valid_may (f := ⟨rows, cols, cs, row, col⟩) (by simpa using hmay))
    have HM := hide (fun W => may_is rows cols false (by simpa using hmay) W)
    clear hmay
    gi_wp2_with (first | (refine ⟨trivial, ?_⟩; gi_at_call 12; refine (callsIn_wide.2 (HM.out _)).mono ?_; rintro e w' ⟨rfl, rfl⟩) | fail)
    refine ⟨.bool false, by simp [results, Tryd.results8, go_sem], ret_bG (by rw [HV.out]), HB0.out⟩
  case pos =>
    have HM := hide (fun W => may_is rows cols true hmay W)
    obtain ⟨m1, m2, m3, m4⟩ := may_t.1 hmay
    have hp0 : 16 ≤ rows * cols := by have := Int.mul_le_mul m1 m3 (by omega) (by omega); omega
    have hp1 : rows * cols ≤ 20000 := by have := Int.mul_le_mul m2 m4 (by omega) (by omega); omega
    obtain ⟨p, hpp⟩ : ∃ p, rows * cols = p := ⟨_, rfl⟩
    have HP0 := hide hpp
    have HMAY := hide hmay
    rw [hpp] at hp0 hp1
    have hwr : IntKind.i64.wrap (rows * cols) = p := by rw [hpp]; simp [IntKind.wrap_i64]; omega
    clear hmay hpp
    by_cases hsz : (n : Int) = p
    case neg =>
      have HV := hide (valid_size (f := ⟨rows, cols, cs, row, col⟩) (by dsimp only; rw [HN.out, HP0.out]; exact hsz))
      gi_wp2_with (first | (refine ⟨trivial, ?_⟩; gi_at_call 12; refine (callsIn_wide.2 (HM.out _)).mono ?_; rintro e w' ⟨rfl, rfl⟩) | fail)
      refine ⟨.bool false, by simp [results, Tryd.results8, go_sem], ret_bG (by rw [HV.out]), HB0.out⟩
    case pos =>
      subst hsz
      by_cases hcur : 0 ≤ row ∧ row < rows ∧ 0 ≤ col ∧ col < cols
      case neg =>
        have HV := hide (valid_cur (f := ⟨rows, cols, cs, row, col⟩) hcur)
        have h4 : row < 0 ∨ (¬ row < 0 ∧ rows ≤ row) ∨ (¬ row < 0 ∧ ¬ rows ≤ row ∧ col < 0) ∨ (¬ row < 0 ∧ ¬ rows ≤ row ∧ ¬ col < 0 ∧ cols ≤ col) := by omega
        clear hcur
        rcases h4 with h4 | ⟨h4, h5⟩ | ⟨h4, h5, h6⟩ | ⟨h4, h5, h6, h7⟩
        all_goals
          gi_wp2_with (first | (refine ⟨trivial, ?_⟩; gi_at_call 12; refine (callsIn_wide.2 (HM.out _)).mono ?_; rintro e w' ⟨rfl, rfl⟩) | fail)
          refine ⟨.bool false, by simp [results, Tryd.results8, go_sem], ret_bG (by rw [HV.out]), HB0.out⟩
      case pos =>
        obtain ⟨c1, c2, c3, c4⟩ := hcur
        obtain ⟨R, rfl⟩ : ∃ R : Nat, rows = R := ⟨rows.toNat, by omega⟩
        obtain ⟨C, rfl⟩ : ∃ C : Nat, cols = C := ⟨cols.toNat, by omega⟩
        have HV := hide (validF_of (cs := cs) HMAY.out (by rw [HN.out, HP0.out]) ⟨c1, c2, c3, c4⟩)
        obtain ⟨b, o, hA, -⟩ := ClsAt.at (j := 0) HCL.out (List.getElem?_eq_getElem (show 0 < cs.length by rw [HN.out]; omega))
        subst hA
        have HNRC := hide (show n = R * C from by have := HP0.out; exact_mod_cast this.symm)
        have d1 : ¬ row < 0 := by omega
        have d2 : ¬ (R : Int) ≤ row := by omega
        have d3 : ¬ col < 0 := by omega
        have d4 : ¬ (C : Int) ≤ col := by omega
        gi_wp2_with (first
          | (refine ⟨trivial, ?_⟩; gi_at_call 12; refine (callsIn_wide.2 (HM.out _)).mono ?_; rintro e w' ⟨rfl, rfl⟩)
          | (refine ⟨trivial, ?_⟩; gi_at_call 13; refine (callsIn_wide.2 (chunk_any _ _ _ _ (by omega) _)).mono ?_; rintro e w' ⟨rfl, rfl⟩)
          | fail)
        rename_i K hK
        obtain ⟨W2, hW2⟩ : ∃ W2, W2 = (w.alloc (.cells #[.int .i64 R, .int .i64 C, .slice (some ⟨b, o, none⟩) n cap, .int .i64 row, .int .i64 col] 31)).alloc (.cells #[.bool false] 4) := ⟨_, rfl⟩
        have hsz2 : W2.heap.size = w.heap.size + 1 + 1 := by rw [hW2]; simp
        have HB2 := hide (show Below w.heap.size w W2 by rw [hW2]; exact HB0.out)
        have HBX := hide (show Boxed W2 (w.heap.size + 1) 4 (.bool false) by
          rw [hW2]
          have := Boxed.new (w.alloc (.cells #[.int .i64 R, .int .i64 C, .slice (some ⟨b, o, none⟩) n cap, .int .i64 row, .int .i64 col] 31)) 4 (.bool false)
          simpa only [World.size_alloc] using this)
        rw [← hW2]
        clear hW2 HB0 HM
        refine range_open rfl (by omega) (gf := 25) (lb := #[.pointer (some ⟨w.heap.size + 1 + 1, 0, none⟩), .pointer (some ⟨w.heap.size + 1 + 1 + 1, 0, none⟩)]) rfl trivial (enters_of Tryd.func25 (by kernel_rfl) rfl) ?_
        intro fn rec hfn hrec
        have HREC := hide hrec
        have HP := hide (show ∀ st pe, (rec st pe).pending = pe ∧ (rec st pe).state = st from fun st pe => by rw [hrec]; exact ⟨rfl, rfl⟩)
        have HRR := hide (show ∀ st pe st' pe', { rec st pe with state := st', pending := pe' } = rec st' pe' from fun st pe st' pe' => by rw [hrec])
        clear hrec
        refine callsIn_of_wp Tryd.func25 rfl trivial ?_
        simp only [Tryd.ntmps25, List.size_toArray, List.length_cons, List.length_nil, Nat.reduceAdd, Nat.reduceSub, Array.replicate_succ, Array.replicate_zero, List.push_toArray, List.append_toArray, List.nil_append, List.cons_append]
        have HI0 := hide (ChI.start W2 (.slice (some ⟨b, o, none⟩) n cap) C (.loop (rec .ready none)) w w.heap.size HB2.out (by omega))
        rw [hsz2] at HI0
        have HBX0 := hide (show Boxed ((((W2.alloc (.cells #[.slice (some ⟨b, o, none⟩) n cap] 29)).alloc (.cells #[.int .i64 C] 3)).alloc (.deferred (some []))).alloc (.loop (rec .ready none))) (w.heap.size + 1) 4 (.bool false) from (((HBX.out.alloc _).alloc _).alloc _).alloc _)
        gi_wp2
        gi_loopw [4] (fun iv wr => ∃ k x : Nat, iv = .int .i64 x ∧ Hid (x = k * C) ∧ k ≤ R ∧ x ≤ n ∧ Hid (ChI w w.heap.size (w.heap.size + 1 + 1) (.loop (rec .ready none)) (.slice (some ⟨b, o, none⟩) n cap) C wr) ∧ Hid (Boxed wr (w.heap.size + 1) 4 (.bool false)) ∧ Hid (∀ j, j < k → rowB (rowL cs C j) = true)) (fun iv _ => n - (intOf iv).toNat)
        case atStart => exact ⟨0, 0, rfl, hide (by simp), by omega, by omega, HI0, HBX0, hide (fun j hj => by omega)⟩
        case round =>
          clear HI0 HBX0
          obtain ⟨k, x, rfl, HX, hk, hx, HI, HBo, HRows⟩ := hrel
          have hcs := HI.out.2.2.2.1.cell
          have hcz := HI.out.2.2.2.2.1.cell
          by_cases hlt : k < R
          · have hxC : x + C ≤ n := by
              have h1 : (k + 1) * C ≤ R * C := Nat.mul_le_mul_right _ hlt
              have h2 := HX.out
              have h3 := HNRC.out
              rw [Nat.add_mul, Nat.one_mul] at h1
              omega
            have hlt2 : x < n := by omega
            clear hk hx
            have hmin : min (C : Int) ((n - x : Nat) : Int) = (C : Int) := by omega
            have hto : ((x : Int) + (C : Int)).toNat - x = C := by omega
            gi_wp2
            gi_region
            have hI2 := HI.out.drewN 1
            have hB2 := HBo.out
            obtain ⟨W0, hW0⟩ : ∃ W0, wr.drew = W0 := ⟨_, rfl⟩
            rw [show wr.drewN 1 = W0 from hW0] at hI2
            replace hB2 : Boxed W0 (w.heap.size + 1) 4 (.bool false) := by rw [← hW0]; exact hB2
            rw [hW0]
            have hcs := hI2.2.2.2.1.cell
            have hcz := hI2.2.2.2.2.1.cell
            have HI2 := hide hI2
            have hy := fun u => run_yield (P := Tryd.prog) (args := #[u]) hI2.2.1 (by rw [HREC.out]; rfl)
            clear hI2 hW0
            gi_wp2
            clear hmin hto
            have HSL := hide (show ∀ W, Below w.heap.size w W → SlC W (.slice (some ⟨b, o + x * 6, none⟩) C C) (rowL cs C k) from fun W hW => by
              refine ⟨_, C, C, rfl, ?_, Nat.le_refl _, by unfold maxLen; omega, ?_⟩
              · rw [rowL_len (rows := R) (by rw [HN.out, HNRC.out]) hlt]
              · have := (show ClsAt W _ _ from HCL.out.below hW).sub (k * C) C
                rw [← HX.out] at this
                unfold rowL
                rw [← HX.out]
                exact this)
            refine round_at (a1 := ?_) HI2.out.2.1 (HP.out _ _).2 (by rw [HREC.out]; exact hfn) ?_ ?_
            rotate_left
            · intro K9 hK9
              rw [HREC.out]
              gi_wp2
              exact hK9
            · rw [rec_state HRR.out HP.out]
              have hI3 := HI2.out.put rfl (.loop (rec .busy none))
              have hB3 : Boxed (W0.putObj (w.heap.size + 1 + 1 + 1 + 1 + 1) (.loop (rec .busy none))) (w.heap.size + 1) 4 (.bool false) := putObj_box hB2 HI2.out.2.1 rfl
              obtain ⟨WB, hWB⟩ : ∃ WB, W0.putObj (w.heap.size + 1 + 1 + 1 + 1 + 1) (.loop (rec .busy none)) = WB := ⟨_, rfl⟩
              rw [hWB] at hI3 hB3 ⊢
              have HI3 := hide hI3
              have HB3 := hide hB3
              obtain ⟨q, hq⟩ : ∃ q, rowB (rowL cs C k) = q := ⟨_, rfl⟩
              have HR := hide (row_any (rowL cs C k) _ WB (HSL.out _ hI3.2.2.2.2.2) (HT.out.below hI3.2.2.2.2.2))
              rw [hq] at HR
              have HQ := hide hq
              clear hI3 hy hWB hB3 hq
              rw [HREC.out]
              cases q with
              | true =>
                gi_wp2_with (refine ⟨trivial, ?_⟩; gi_at_call 14; refine (CallsIn.inRound _ (callsIn_wide.2 HR.out)).mono ?_; rintro e w1 ⟨rfl, hb1⟩)
                have hI5 := HI3.out.below hb1
                have hB5 : Boxed w1 (w.heap.size + 1) 4 (.bool false) := (hb1.block _ HB3.out.lt).trans HB3.out
                refine ⟨_, _, round_end HRR.out hI5.2.1 none, ?_⟩
                have hI6 := hI5.put rfl (.loop (rec .ready none))
                have hB6 := putObj_box (o' := .loop (rec .ready none)) hB5 hI5.2.1 rfl
                simp only [Option.isNone_none, if_true]
                obtain ⟨WF, hWF⟩ : ∃ WF, w1.putObj (w.heap.size + 1 + 1 + 1 + 1 + 1) (.loop (rec .ready none)) = WF := ⟨_, rfl⟩
                rw [hWF] at hI6 hB6 ⊢
                have hcz2 := hI6.2.2.2.2.1.cell
                have HI6 := hide hI6
                have HB6 := hide hB6
                clear hI5 hB5 hWF hI6 hB6 hb1
                gi_wp2
                go_roundw
                case rel => exact ⟨k + 1, x + C, by go_num, hide (by have := HX.out; rw [Nat.add_mul, Nat.one_mul]; omega), by omega, by omega, HI6, HB6, hide (fun j hj => by rcases Nat.lt_succ_iff_lt_or_eq.1 hj with h | rfl; exact HRows.out j h; exact HQ.out)⟩
                case measure => simp [intOf]; omega
              | false =>
                gi_wp2_with (refine ⟨trivial, ?_⟩; gi_at_call 14; refine (CallsIn.inRound _ (callsIn_wide.2 HR.out)).mono ?_; rintro e w1 ⟨rfl, hb1⟩; have hI5 := HI3.out.below hb1; have hB5 : Boxed w1 (w.heap.size + 1) 4 (.bool false) := (hb1.block _ HB3.out.lt).trans HB3.out; have hc5 := hB5.cell; have hf5 := hB5.frozen)
                have hI6 := hI5.set (g := w.heap.size + 1) (by omega) (by omega) 0 (.bool false)
                refine ⟨_, _, round_end HRR.out hI6.2.1 (some .ret), ?_⟩
                have hB6 : Boxed (w1.setCell ⟨w.heap.size + 1, 0, none⟩ (.bool false)) (w.heap.size + 1) 4 (.bool false) := hB5.set _
                have hI7 := hI6.put rfl (.loop (rec .done (some .ret)))
                have hB7 := putObj_box (o' := .loop (rec .done (some .ret))) hB6 hI6.2.1 rfl
                obtain ⟨WD, hWD⟩ : ∃ WD, (w1.setCell ⟨w.heap.size + 1, 0, none⟩ (.bool false)).putObj (w.heap.size + 1 + 1 + 1 + 1 + 1) (.loop (rec .done (some .ret))) = WD := ⟨_, rfl⟩
                rw [hWD] at hI7 hB7
                simp only [Option.isNone_some, Bool.false_eq_true, if_false, hWD]
                have HI7 := hide hI7
                have HB7 := hide hB7
                clear hI5 hI6 hI7 hB5 hB6 hB7 hb1 hWD hc5 hf5
                gi_wp2
                refine bodyPost_ret (results_none rfl _ _ _) rfl ?_
                obtain ⟨o', ho'⟩ := end_ex (P := Tryd.prog) (pe := some .ret) HI7.out.2.1 (by rw [(HP.out _ _).2]; simp) (HP.out _ _).1
                refine ⟨_, _, ho', ?_⟩
                have hE := HI7.out.put rfl o'
                have hB8 := putObj_box (o' := o') HB7.out HI7.out.2.1 rfl
                clear ho'
                dsimp only
                obtain ⟨WE, hWE⟩ : ∃ WE, WD.putObj (w.heap.size + 1 + 1 + 1 + 1 + 1) o' = WE := ⟨_, rfl⟩
                rw [hWE] at hE hB8 ⊢
                clear hWE
                have HE := hide hE
                have HB8 := hide hB8
                clear hE hB8
                gi_wp2
                refine ⟨by simp, .inl ⟨_, _, rfl, run_takeDeferred HE.out.2.2.1, ?_⟩⟩
                obtain ⟨r0, r1⟩ := HE.out.fin HB8.out (by omega)
                exact ⟨.bool false, by simp [results, Tryd.results8, go_sem, r0], ret_bG (by rw [HV.out]; refine (Bool.eq_false_iff.2 fun h => ?_).symm; unfold validL at h; rw [List.all_eq_true] at h; have := h k (List.mem_range.2 hlt); rw [HQ.out] at this; cases this), r1⟩
          · obtain rfl : k = R := by omega
            have hxn : x = n := by have := HX.out; have := HNRC.out; omega
            have HVL := hide (show validL cs k C = true by unfold validL; rw [List.all_eq_true]; intro j hj; exact HRows.out j (List.mem_range.1 hj))
            subst hxn
            gi_wp2
            go_end0
            obtain ⟨o', ho'⟩ := end_ex (P := Tryd.prog) (pe := none) HI.out.2.1 (by rw [(HP.out _ _).2]; simp) (HP.out _ _).1
            refine ⟨_, _, ho', ?_⟩
            have hE := HI.out.put rfl o'
            have hB5 := putObj_box (o' := o') HBo.out HI.out.2.1 rfl
            clear ho'
            dsimp only
            refine hK _ _ ?_
            obtain ⟨WE, hWE⟩ : ∃ WE, wr.putObj (w.heap.size + 1 + 1 + 1 + 1 + 1) o' = WE := ⟨_, rfl⟩
            rw [hWE] at hE hB5 ⊢
            clear hWE
            have hc1 := hB5.cell
            have hf1 := hB5.frozen
            have HE := hide hE
            have HB5 := hide hB5
            clear hE hB5
            gi_wp2
            refine ⟨by simp, .inl ⟨_, _, rfl, run_takeDeferred (HE.out.set (g := w.heap.size + 1) (by omega) (by omega) 0 (.bool true)).2.2.1, ?_⟩⟩
            obtain ⟨r0, r1⟩ := (HE.out.set (g := w.heap.size + 1) (by omega) (by omega) 0 (.bool true)).fin (HB5.out.set _) (by omega)
            exact ⟨.bool true, by simp [results, Tryd.results8, go_sem, r0], ret_bG (by rw [HV.out, HVL.out]), r1⟩
end Go.Proofs.YtmpajkfbiocmiaaDoor
namespace Go.Proofs.YtmpajkfbiocmiaaDoor
open Go.RowKit

theorem among_take_succ {l : List (Int × Int)} {r : Int} {j : Nat} (hj : j < l.length) : among (l.take (j + 1)) r = (among (l.take j) r || (decide ((l[j]?.getD (0, 0)).1 ≤ r) && decide (r ≤ (l[j]?.getD (0, 0)).2))) := by
  rw [List.take_succ_eq_append_getElem hj, among, List.any_append]
  simp [among, hj]
theorem among_hit {l : List (Int × Int)} {r : Int} {j : Nat} (hj : j < l.length) (h1 : (l[j]?.getD (0, 0)).1 ≤ r) (h2 : r ≤ (l[j]?.getD (0, 0)).2) : among l r = true := by
  unfold among
  rw [List.any_eq_true]
  refine ⟨l[j], List.getElem_mem hj, ?_⟩
  simp only [List.getElem?_eq_getElem hj, Option.getD_some] at h1 h2
  simp [h1, h2]

theorem ret_among {a b : Bool} (h : a = b) : Ending.returned (.bool a) = .returned (.bool b) := by rw [h]

theorem cell_block (w : World) (cs : Array Value) (t : TypeId) (i : Nat) : (w.alloc (.cells cs t)).cell? ⟨w.heap.size, i, none⟩ = cs[i]? :=
  cell_of_row _ _ i cs t (0, 0) (heap_alloc_new w _)
theorem runs_hid2 (w : World) : RunsAt w.heap.size hid2 (w.alloc (.cells #[.int .i32 127, .int .i32 159, .int .i32 768, .int .i32 879, .int .i32 8203, .int .i32 8207, .int .i32 8232, .int .i32 8238, .int .i32 65024, .int .i32 65039, .int .i32 65279, .int .i32 65279] 21)) := fun j hj => by
  rw [cell_block, cell_block]
  match j, hj with
  | 0, _ => exact ⟨rfl, rfl⟩
  | 1, _ => exact ⟨rfl, rfl⟩
  | 2, _ => exact ⟨rfl, rfl⟩
  | 3, _ => exact ⟨rfl, rfl⟩
  | 4, _ => exact ⟨rfl, rfl⟩
  | 5, _ => exact ⟨rfl, rfl⟩
theorem runs_wid (w : World) : RunsAt w.heap.size wid (w.alloc (.cells #[.int .i32 4352, .int .i32 4447, .int .i32 11904, .int .i32 12350, .int .i32 12353, .int .i32 13311, .int .i32 13312, .int .i32 19903, .int .i32 19968, .int .i32 40959, .int .i32 40960, .int .i32 42191, .int .i32 44032, .int .i32 55203, .int .i32 63744, .int .i32 64255, .int .i32 65072, .int .i32 65135, .int .i32 65281, .int .i32 65376, .int .i32 65504, .int .i32 65510, .int .i32 127744, .int .i32 128591, .int .i32 129280, .int .i32 129535, .int .i32 131072, .int .i32 262141] 21)) := fun j hj => by
  rw [cell_block, cell_block]
  match j, hj with
  | 0, _ => exact ⟨rfl, rfl⟩
  | 1, _ => exact ⟨rfl, rfl⟩
  | 2, _ => exact ⟨rfl, rfl⟩
  | 3, _ => exact ⟨rfl, rfl⟩
  | 4, _ => exact ⟨rfl, rfl⟩
  | 5, _ => exact ⟨rfl, rfl⟩
  | 6, _ => exact ⟨rfl, rfl⟩
  | 7, _ => exact ⟨rfl, rfl⟩
  | 8, _ => exact ⟨rfl, rfl⟩
  | 9, _ => exact ⟨rfl, rfl⟩
  | 10, _ => exact ⟨rfl, rfl⟩
  | 11, _ => exact ⟨rfl, rfl⟩
  | 12, _ => exact ⟨rfl, rfl⟩
  | 13, _ => exact ⟨rfl, rfl⟩

theorem putS_empty (r : Int) : (putS r).toList.isEmpty = decide (r < 0 ∨ 1114111 < r ∨ (55296 ≤ r ∧ r ≤ 57343)) := by
  rw [ByteArray.toList_eq]
  rcases put_cases r with ⟨h, b⟩ | ⟨h, b⟩ | ⟨h, b⟩ | ⟨h, b⟩ | ⟨h, b⟩ <;> rw [h] <;> simp <;> omega
/-- What the document says of a rune's cells. -/
theorem cells_ref (r : Int) : cells r = if (r < 0 ∨ 1114111 < r ∨ (55296 ≤ r ∧ r ≤ 57343)) ∨ r < 32 ∨ among hid2 r = true then 0 else if among wid r = true then 2 else 1 := by
  have h : (r < 0 ∨ 1114111 < r ∨ among hid r = true) ↔ ((r < 0 ∨ 1114111 < r ∨ (55296 ≤ r ∧ r ≤ 57343)) ∨ r < 32 ∨ among hid2 r = true) := by
    simp only [among, hid, hid2, List.any_cons, List.any_nil, Bool.or_eq_true, Bool.and_eq_true, decide_eq_true_eq, Bool.or_false]
    omega
  unfold cells
  by_cases hc : r < 0 ∨ 1114111 < r ∨ among hid r = true
  · rw [if_pos hc, if_pos (h.1 hc)]
  · rw [if_neg hc, if_neg (fun e => hc (h.2 e))]

end Go.Proofs.YtmpajkfbiocmiaaDoor
namespace Go.Proofs.YtmpajkfbiocmiaaDoor
open Go.RowKit

/-- The cells up to k may be. -/
def okK (L : List Cl) (C k : Nat) : Prop := ∀ j c, j < k → L[j]? = some c → okAt L C j c = true
theorem okK_all {L : List Cl} {R C : Nat} (hc : 0 < C) (hL : L.length = R * C) (h : okK L C L.length) : validL L R C = true :=
  (valid_cells L R C hc hL).2 fun i c hi => h i c (List.getElem?_eq_some_iff.1 hi).1 hi
theorem okK_bad {L : List Cl} {R C i : Nat} {c : Cl} (hc : 0 < C) (hL : L.length = R * C) (hi : L[i]? = some c) (h : okAt L C i c = false) : validL L R C = false := by
  refine Bool.eq_false_iff.2 fun hv => ?_
  have := (valid_cells L R C hc hL).1 hv i c hi
  rw [h] at this
  cases this
theorem okK_step {L : List Cl} {C k : Nat} {c : Cl} (h : okK L C k) (hi : L[k]? = some c) (hok : okAt L C k c = true) : okK L C (k + 1) := by
  intro j d hj hd
  rcases Nat.lt_succ_iff_lt_or_eq.1 hj with h1 | rfl
  · exact h j d h1 hd
  · rw [hi] at hd; cases hd; exact hok
/-- What a cell's test says, by its width. -/
theorem okAt_sty {L : List Cl} {C i : Nat} {c : Cl} (h : styC c = false) : okAt L C i c = false := by unfold okAt cellB; rw [h]; simp
theorem okAt_w {L : List Cl} {C i : Nat} {c : Cl} (h : c.w < 0 ∨ 2 < c.w) : okAt L C i c = false := cell_bad h
theorem okAt_1 {L : List Cl} {C i : Nat} {c : Cl} (h : c.w = 1) (hs : styC c = true) : okAt L C i c = decide (cells c.r = 1) := by unfold okAt; rw [cell_1 h, hs, Bool.and_true]
theorem okAt_2 {L : List Cl} {C i : Nat} {c : Cl} (h : c.w = 2) (hs : styC c = true) : okAt L C i c = (decide (cells c.r = 2) && (if i % C = C - 1 then none else L[i + 1]?).any fun d => decide (d.w = 0)) := by unfold okAt; rw [cell_2 h, hs, Bool.and_true]
theorem okAt_0 {L : List Cl} {C i : Nat} {c : Cl} (h : c.w = 0) (hs : styC c = true) : okAt L C i c = (if i % C = 0 then none else L[i - 1]?).any fun d => decide (d.w = 2) && decide (c.r = 0) && styE c d := by unfold okAt; rw [cell_0 h, hs, Bool.true_and]
theorem next_in {i R C : Nat} (h : i < R * C) (hC : 0 < C) (h2 : ¬ i % C = C - 1) : i + 1 < R * C := by
  rcases Nat.lt_or_eq_of_le (show i + 1 ≤ R * C from h) with h3 | h3
  · exact h3
  · exfalso
    apply h2
    have h4 : (i + 1) % C = 0 := by rw [h3]; exact Nat.mul_mod_left _ _
    obtain ⟨q, hq⟩ := Nat.dvd_of_mod_eq_zero h4
    have hq0 : 0 < q := by rcases Nat.eq_zero_or_pos q with e | e; rw [e] at hq; omega; exact e
    obtain ⟨p, rfl⟩ : ∃ p, q = p + 1 := ⟨q - 1, by omega⟩
    have : i = C * p + (C - 1) := by rw [Nat.mul_add, Nat.mul_one] at hq; omega
    rw [this, Nat.mul_add_mod, Nat.mod_eq_of_lt (by omega)]
end Go.Proofs.YtmpajkfbiocmiaaDoor
namespace Go.Proofs.YtmpajkfbiocmiaaDoor
open Go.RowKit

theorem at_inj {W : World} {A : Option Addr} {L : List Cl} (h : ClsAt W A L) {j : Nat} (hj : j < L.length) : ∃ b o, A = some ⟨b, o, none⟩ := by
  obtain ⟨b, o, e, -⟩ := h.at (List.getElem?_eq_getElem hj)
  exact ⟨b, o, e⟩
theorem ClsAt.get {W : World} {b o : Nat} {L : List Cl} (h : ClsAt W (some ⟨b, o, none⟩) L) {j : Nat} {c : Cl} (hj : L[j]? = some c) :
    W.cell? ⟨b, o + j * 6, none⟩ = some (.int .i32 c.r) ∧ W.cell? ⟨b, o + j * 6 + 1, none⟩ = some (.int .i64 c.w) ∧ W.cell? ⟨b, o + j * 6 + 2, none⟩ = some (.int .i64 c.fg) ∧ W.cell? ⟨b, o + j * 6 + 3, none⟩ = some (.bool c.bo) ∧ W.cell? ⟨b, o + j * 6 + 4, none⟩ = some (.bool c.un) ∧ W.cell? ⟨b, o + j * 6 + 5, none⟩ = some (.bool c.iv) := by
  obtain ⟨b', o', e, -, h6⟩ := h.at hj
  injection e with e
  injection e with e1 e2
  subst e1 e2
  exact h6
theorem list_same {L M : List Cl} (h : L.length = M.length) (h2 : ∀ j, j < L.length → L[j]? = M[j]?) : L = M :=
  List.ext_getElem? fun j => by
    by_cases hj : j < L.length
    · exact h2 j hj
    · rw [List.getElem?_eq_none (by omega), List.getElem?_eq_none (by omega)]
def sameLB (L M : List Cl) : Bool := decide (L = M)

def sameF (f g : Fr) : Bool := decide (f = g)
theorem sameF_eq (f g : Fr) : sameF f g = (decide (f.rows = g.rows) && decide (f.cols = g.cols) && decide (f.row = g.row) && decide (f.col = g.col) && sameLB f.cs g.cs) := by
  obtain ⟨a, b, c, d, e⟩ := f
  obtain ⟨a', b', c', d', e'⟩ := g
  unfold sameF sameLB
  rw [Bool.eq_iff_iff]
  simp only [Fr.mk.injEq, decide_eq_true_eq, Bool.and_eq_true]
  constructor
  · rintro ⟨h1, h2, h3, h4, h5⟩; exact ⟨⟨⟨⟨h1, h2⟩, h4⟩, h5⟩, h3⟩
  · rintro ⟨⟨⟨⟨h1, h2⟩, h3⟩, h4⟩, h5⟩; exact ⟨h1, h2, h5, h3, h4⟩
theorem FrAt.sl {W : World} {f : Fr} {A : Option Addr} {n cap : Nat} (h : FrAt W (frV f A n cap) f) : SlC W (.slice A n cap) f.cs := by
  obtain ⟨A', cap', e, h1, h2, h3⟩ := h
  unfold frV at e
  simp only [Value.agg.injEq, Array.mk.injEq, List.cons.injEq, Value.slice.injEq, and_true, true_and] at e
  obtain ⟨rfl, rfl, rfl⟩ := e
  exact ⟨_, _, _, rfl, rfl, h1, h2, h3⟩

end Go.Proofs.YtmpajkfbiocmiaaDoor
namespace Go.Proofs.YtmpajkfbiocmiaaDoor
open Go.RowKit

theorem run_copy_rowN {P : Program} (w : World) (dT sT ty elem : TypeId) (size g o dLen dCap : Nat) (a : Addr) (sLen sCap : Nat) (cur : Array Value) (t : TypeId) (cs : List Value)
    (hu : P.underlying dT = some (.slice elem)) (hs : (P.info? elem).map (·.size) = some size)
    (hg : w.heap[g]? = some (.cells cur t (0, 0))) (hn : cs.length = Nat.min sLen dLen * size)
    (hsrc : ∀ j v, cs[j]? = some v → w.cell? (a.add j) = some v) (hfit : o + cs.length ≤ cur.size) (h1 : ∀ v ∈ cs, v.oneCell' = true) :
    (Builtin.copy_ #[dT, sT] ty #[.slice (some ⟨g, o, none⟩) dLen dCap, .slice (some a) sLen sCap]).run P w =
      .ok (goInt (Nat.min sLen dLen)) (w.setRow g (cur.toList.take o ++ cs ++ cur.toList.drop (o + cs.length)).toArray) := by
  have hl := run_loadCells_list (P := P) w a cs hsrc
  have hst := run_storeCells_at P g o t cs 0 cur w hg (by simpa using hfit) h1
  cases hq : P.info? elem with
  | none => simp [hq] at hs
  | some i =>
    have hi : i.size = size := by simpa [hq] using hs
    simp [Builtin.copy_, run_underlying hu, Builtin.lenOf, Builtin.firstCells, sizeOf, typeInfo, hq, hi, ← hn, hl, hst]
theorem wpList_copy_N {P : Program} {w : World} {ops : Array Oper} {rest : List Oper} {o : Oper} {a : Act} {Q : Exit → Act → World → Prop} (hgd : o.guard = none) (d s : Operand) (dT sT : TypeId)
    (ho : o.op = .call { callee := .builtin .copy, args := #[d, s], argTypes := #[dT, sT] }) (elem : TypeId) (size : Nat) (hu : P.underlying dT = some (.slice elem)) (hsz : (P.info? elem).map (·.size) = some size)
    (g off dLen dCap : Nat) (ad : Addr) (sLen sCap : Nat) (hd : a.eval d = .slice (some ⟨g, off, none⟩) dLen dCap) (hs : a.eval s = .slice (some ad) sLen sCap)
    (cur : List Value) (t : TypeId) (hg : w.heap[g]? = some (.cells cur.toArray t (0, 0))) (cs : List Value) (hn : cs.length = Nat.min sLen dLen * size)
    (hsrc : ∀ j v, cs[j]? = some v → w.cell? (ad.add j) = some v) (hfit : off + cs.length ≤ cur.length) (h1 : ∀ v ∈ cs, v.oneCell' = true) (B : Nat) (w0 : World) (hb : Below B w0 w) (hBg : B ≤ g)
    (h : ∀ w', Hid (w'.heap[g]? = some (.cells (splice cur off cs).toArray t (0, 0))) → Below B w0 w' → wpList P ops Q rest (a.put o.dst (goInt (Nat.min sLen dLen))) w') : wpList P ops Q (o :: rest) a w := by
  refine wpList_plain hgd fun K hK => ?_
  have hrun := run_copy_rowN (P := P) w dT sT o.type elem size g off dLen dCap ad sLen sCap cur.toArray t cs hu hsz hg hn hsrc (by simpa using hfit) h1
  unfold Oper.wp
  simp only [execOp, ho, resolve, invoke, builtin]
  simp [hd, hs, hrun, Result.andThen]
  exact hK _ _ (h _ (show _ = _ by simpa [splice] using setRow_heap w g _ _ t _ hg) (below_setRow hb hBg _))

/-- A frame whose slice the call made. -/
def FrOwn (W : World) (B : Nat) (v : Value) (f : Fr) : Prop := ∃ A cap, v = frV f A f.cs.length cap ∧ cap ≤ maxLen ∧ OwnC W B (.slice A f.cs.length cap) f.cs
theorem FrOwn.at {W : World} {B : Nat} {v : Value} {f : Fr} (h : FrOwn W B v f) : FrAt W v f := by
  obtain ⟨A, cap, e, h1, h2⟩ := h
  obtain ⟨A', c, e', h3⟩ := h2.form
  injection e' with _ _ e3
  subst e3
  exact ⟨A, cap, e, h3, h1, h2.cls⟩
theorem FrOwn.below {w W : World} {B : Nat} {v : Value} {f : Fr} (h : FrOwn w B v f) (hb : Below w.heap.size w W) : FrOwn W B v f := by
  obtain ⟨A, cap, e, h1, h2⟩ := h
  exact ⟨A, cap, e, h1, h2.below hb⟩
theorem flatC_one (L : List Cl) : ∀ v ∈ flatC L, v.oneCell' = true := by
  intro v hv
  unfold flatC at hv
  rw [List.mem_flatMap] at hv
  obtain ⟨c, -, hc⟩ := hv
  simp only [clCells, List.mem_cons, List.not_mem_nil, or_false] at hc
  rcases hc with rfl | rfl | rfl | rfl | rfl | rfl <;> rfl
/-- What a slice of cells reads, cell by cell. -/
theorem ClsAt.flat {W : World} {b o : Nat} {L : List Cl} (h : ClsAt W (some ⟨b, o, none⟩) L) (j : Nat) (v : Value) (hj : (flatC L)[j]? = some v) : W.cell? ((⟨b, o, none⟩ : Addr).add j) = some v := by
  have hlt := (List.getElem?_eq_some_iff.1 hj).1
  rw [flatC_len] at hlt
  obtain ⟨c, hc⟩ : ∃ c, L[j / 6]? = some c := ⟨_, List.getElem?_eq_getElem (by omega)⟩
  have h6 := flatC_at L (j / 6) c hc (j % 6) (Nat.mod_lt _ (by omega))
  rw [show j / 6 * 6 + j % 6 = j by omega, hj] at h6
  obtain ⟨b', o', e, -, hcc⟩ := h _ c hc
  injection e with e
  injection e with e1 e2
  subst e1 e2
  have := hcc (j % 6) v h6.symm
  rw [show o + j / 6 * 6 + j % 6 = o + j by omega] at this
  rw [← this]
  congr 1
  unfold Addr.add; split <;> simp_all
theorem infoC : (Tryd.prog.info? 39).map (fun i => (i.zero, i.size, i.bytes)) = some (some (.agg #[.int .i32 0, .int .i64 0, .int .i64 0, .bool false, .bool false, .bool false]), 6, 32) := by kernel_rfl
theorem infoC2 : (Tryd.prog.info? 39).map (·.size) = some 6 := by kernel_rfl
theorem splice_all (cur cs : List Value) (h : cs.length = cur.length) : splice cur 0 cs = cs := by unfold splice; rw [List.take_zero, List.nil_append, Nat.zero_add, h, List.drop_length, List.append_nil]
theorem own_new {W : World} {B g n : Nat} {L : List Cl} (hg : B ≤ g) (hh : W.heap[g]? = some (.cells (flatC L).toArray 39 (0, 0))) (hn : L.length = n) (hm : n ≤ maxLen) : OwnC W B (.slice (some ⟨g, 0, none⟩) n n) L := by
  subst hn
  exact ⟨by rw [flatC_len], .inr ⟨g, L.length, (flatC L).toArray, rfl, hg, hh, Nat.le_refl _, hm, by simp [flatC_len], by rw [List.take_of_length_le (by simp [flatC_len])]⟩⟩

theorem own_row {W : World} {B g n : Nat} {e : TypeId} {xs : List Value} (h : W.ownsRow B e 6 (.slice (some ⟨g, 0, none⟩) n n) n xs) (hn : 0 < n) : ∃ cur : List Value, cur.length = n * 6 ∧ W.heap[g]? = some (.cells cur.toArray e (0, 0)) := by
  rcases h.2 with ⟨e1, h0⟩ | ⟨g', cap', cur, e1, hg, hh, hcc, hmx, hsz, htk⟩
  · cases e1
  · injection e1 with e1 e2 e3
    injection e1 with e1
    injection e1 with e1
    subst e1 e3
    exact ⟨cur.toList, by rw [Array.length_toList, hsz], by rw [hh, Array.toArray_toList]⟩
theorem copy_new {W : World} {g n b o cap : Nat} {L : List Cl} {cur : List Value} (hn : L.length = n) (hc : cur.length = n * 6) (hg : W.heap[g]? = some (.cells cur.toArray 39 (0, 0))) (h : ClsAt W (some ⟨b, o, none⟩) L) (ty : TypeId) :
    ∃ w2, (Builtin.copy_ #[29, 29] ty #[.slice (some ⟨g, 0, none⟩) n n, .slice (some ⟨b, o, none⟩) n cap]).run Tryd.prog W = .ok (goInt n) w2 ∧ w2.heap[g]? = some (.cells (flatC L).toArray 39 (0, 0)) ∧ Below g W w2 := by
  have hm : Nat.min n n = n := Nat.min_self n
  have hr := run_copy_rowN (P := Tryd.prog) W 29 29 ty 39 6 g 0 n n ⟨b, o, none⟩ n cap cur.toArray _ (flatC L) Tryd.underlying29 infoC2 hg (by rw [flatC_len, hn, hm]) h.flat (by simp [flatC_len, hn, hc]) (flatC_one L)
  rw [hm] at hr
  refine ⟨_, hr, ?_, below_setRow (Below.refl _ _) (Nat.le_refl _) _⟩
  have h9 := setRow_heap W g cur.toArray (([] : List Value) ++ flatC L ++ []).toArray _ (0, 0) hg
  simpa [flatC_len, hn, hc, List.drop_eq_nil_of_le] using h9
end Go.Proofs.YtmpajkfbiocmiaaDoor
namespace Go.Proofs.YtmpajkfbiocmiaaDoor
open Go.RowKit

theorem ownC_of {W : World} {B n : Nat} {v : Value} {L : List Cl} (hn : L.length = n) (h : W.ownsRow B 39 6 v (0 + n) ([] ++ flatC L)) : OwnC W B v L := by
  subst hn
  rw [Nat.zero_add, List.nil_append] at h
  exact h
theorem OwnC.form2 {W : World} {B : Nat} {v : Value} {L : List Cl} (h : OwnC W B v L) : ∃ A c, v = .slice A L.length c ∧ L.length ≤ c ∧ c ≤ maxLen := by
  rcases h.2 with ⟨rfl, h0⟩ | ⟨g, cap, cur, rfl, hg, hh, q, qm, _⟩
  · exact ⟨_, _, by rw [h0], by omega, by unfold maxLen; omega⟩
  · exact ⟨_, _, rfl, q, qm⟩
theorem OwnC.mono {W : World} {B C : Nat} {v : Value} {L : List Cl} (h : OwnC W B v L) (hc : C ≤ B) : OwnC W C v L := by
  refine ⟨h.1, ?_⟩
  rcases h.2 with h0 | ⟨g, cap, cur, rfl, hg, r⟩
  · exact .inl h0
  · exact .inr ⟨g, cap, cur, rfl, by omega, r⟩
theorem OwnC.low {W : World} {B : Nat} {v : Value} {L : List Cl} (h : OwnC W B v L) {p : Addr} (hp : p.block < B) (x : Value) : OwnC (W.setCell p x) B v L := by
  refine ⟨h.1, ?_⟩
  rcases h.2 with h0 | ⟨g, cap, cur, rfl, hg, hh, r⟩
  · exact .inl h0
  · exact .inr ⟨g, cap, cur, rfl, hg, (Below.heap_setCell _ _ _ _ (by omega)).trans hh, r⟩
end Go.Proofs.YtmpajkfbiocmiaaDoor
namespace Go.Proofs.YtmpajkfbiocmiaaDoor
open Go.RowKit

/-- Behind a store of a cell in the row of the call's own. -/
theorem own_set6 {W : World} {B g n c : Nat} {L : List Cl} (h : OwnC W B (.slice (some ⟨g, 0, none⟩) n c) L) (hn : L.length = n) {j : Nat} (hj : j < n) (x : Cl) :
    OwnC ((((((W.setCell ⟨g, j * 6, none⟩ (.int .i32 x.r)).setCell ⟨g, j * 6 + 1, none⟩ (.int .i64 x.w)).setCell ⟨g, j * 6 + 2, none⟩ (.int .i64 x.fg)).setCell ⟨g, j * 6 + 3, none⟩ (.bool x.bo)).setCell ⟨g, j * 6 + 4, none⟩ (.bool x.un)).setCell ⟨g, j * 6 + 5, none⟩ (.bool x.iv)) B (.slice (some ⟨g, 0, none⟩) n c) (L.set j x) := by
  subst hn; exact h.set hj x
theorem OwnC.base {W : World} {B g n c : Nat} {L : List Cl} (h : OwnC W B (.slice (some ⟨g, 0, none⟩) n c) L) : B ≤ g := by
  rcases h.2 with ⟨e, h0⟩ | ⟨g', cap, cur, e, hg, r⟩
  · cases e
  · injection e with e; injection e with e; injection e with e; subst e; exact hg
theorem OwnC.frozen {W : World} {B g n c : Nat} {L : List Cl} (h : OwnC W B (.slice (some ⟨g, 0, none⟩) n c) L) (i : Nat) : W.frozen? ⟨g, i, none⟩ = false := by
  rcases h.2 with ⟨e, h0⟩ | ⟨g', cap, cur, e, hg, hh, r⟩
  · cases e
  · injection e with e; injection e with e; injection e with e; subst e
    simp [World.frozen?, hh]
/-- Only this block has changed, and new ones: what lies elsewhere stands. -/
theorem BTab.keep {W W' : World} {g : Nat} (h : BTab W) (hg : W.grownBy W' (some g)) (hne : g ≠ 0) : BTab W' := by
  have k : ∀ {o : Nat} {u : Value}, W.cell? ⟨0, o, none⟩ = some u → W'.cell? ⟨0, o, none⟩ = some u := fun {o u} e => by
    have hlt := World.block_lt_of_cell? _ _ e
    have hb := hg.block _ hlt (fun e => hne (Option.some.inj e).symm)
    rw [← e]
    simp [World.cell?, hb]
  exact ⟨k h.1, k h.2.1, k h.2.2.1, k h.2.2.2.1, k h.2.2.2.2.1, k h.2.2.2.2.2⟩
theorem wipe_1 {L : List Cl} {i : Nat} {c : Cl} (h : L[i]? = some c) (h2 : ¬ c.w = 2) (h0 : ¬ c.w = 0) : wipeL L i = L.set i blankC := by
  unfold wipeL; rw [getD_some h, if_neg h2, if_neg h0]
theorem wipe_2 {L : List Cl} {i : Nat} {c : Cl} (h : L[i]? = some c) (h2 : c.w = 2) : wipeL L i = (L.set (i + 1) blankC).set i blankC := by
  unfold wipeL; rw [getD_some h, if_pos h2]
theorem wipe_0 {L : List Cl} {i : Nat} {c : Cl} (h : L[i]? = some c) (h0 : c.w = 0) : wipeL L i = (L.set (i - 1) blankC).set i blankC := by
  unfold wipeL; rw [getD_some h, if_neg (by omega), if_pos h0]
end Go.Proofs.YtmpajkfbiocmiaaDoor
namespace Go.Proofs.YtmpajkfbiocmiaaDoor
open Go.RowKit

theorem mendL_step (l : List Cl) (p : Option Cl) (j : Nat) : (mendL p l)[j]? = l[j]?.map fun c => mendAt (if j = 0 then p else (mendL p l)[j - 1]?) c l[j + 1]? := by
  induction l generalizing p j with
  | nil => simp [mendL]
  | cons a t ih =>
    rw [mendL]
    cases j with
    | zero => simp [List.head?_eq_getElem?]
    | succ j =>
      rw [List.getElem?_cons_succ, ih, List.getElem?_cons_succ, List.getElem?_cons_succ, Nat.add_sub_cancel, if_neg (Nat.succ_ne_zero j)]
      cases j with
      | zero => simp
      | succ j => simp
/-- The part of m cells from k on, of which the first i are mended. -/
def MendTo (L : List Cl) (k m i : Nat) (M : List Cl) : Prop := M.length = L.length ∧ ∀ j, M[j]? = if k ≤ j ∧ j < k + i then (mendL none ((L.drop k).take m))[j - k]? else L[j]?
def mended (L : List Cl) (k m : Nat) : List Cl := L.take k ++ mendL none ((L.drop k).take m) ++ L.drop (k + m)
theorem mend_none (L : List Cl) (k m : Nat) : MendTo L k m 0 L := ⟨rfl, fun j => by rw [if_neg (by omega)]⟩
theorem mend_done {L M : List Cl} {k m : Nat} (hk : k + m ≤ L.length) (h : MendTo L k m m M) : M = mended L k m := by
  apply List.ext_getElem?
  intro j
  rw [h.2 j]
  have e1 : (L.take k).length = k := by rw [List.length_take]; omega
  have e2 : (mendL none ((L.drop k).take m)).length = m := by rw [mend_len, List.length_take, List.length_drop]; omega
  unfold mended
  by_cases a : j < k
  · rw [if_neg (by omega), List.append_assoc, List.getElem?_append_left (by omega), List.getElem?_take_of_lt a]
  by_cases b : j < k + m
  · rw [if_pos (by omega), List.getElem?_append_left (by rw [List.length_append]; omega), List.getElem?_append_right (by omega), e1]
  · rw [if_neg (by omega), List.getElem?_append_right (by rw [List.length_append]; omega), List.length_append, e1, e2, List.getElem?_drop]
    congr 1
    omega
theorem part_at {L : List Cl} {k m j : Nat} (h : j < m) : ((L.drop k).take m)[j]? = L[k + j]? := by
  rw [List.getElem?_take_of_lt h, List.getElem?_drop]
theorem part_end {L : List Cl} {k m j : Nat} (h : m ≤ j) : ((L.drop k).take m)[j]? = none := List.getElem?_take_eq_none h
/-- One cell on. -/
theorem mend_step {L M : List Cl} {k m i : Nat} (h : MendTo L k m i M) (hi : i < m) (hk : k + m ≤ L.length) {c : Cl} (hc : M[k + i]? = some c) {x : Cl}
    (hx : mendAt (if i = 0 then none else M[k + i - 1]?) c (if i + 1 = m then none else M[k + i + 1]?) = x) : MendTo L k m (i + 1) (M.set (k + i) x) := by
  have hl : L[k + i]? = some c := by rw [← hc, h.2, if_neg (by omega)]
  have hm : (mendL none ((L.drop k).take m))[i]? = some x := by
    rw [mendL_step, part_at hi, hl, Option.map_some, ← hx]
    congr 2
    · by_cases h0 : i = 0
      · rw [if_pos h0, if_pos h0]
      · rw [if_neg h0, if_neg h0, h.2, if_pos (by omega), show k + i - 1 - k = i - 1 by omega]
    · by_cases h1 : i + 1 = m
      · rw [if_pos h1, part_end (by omega)]
      · rw [if_neg h1, part_at (by omega), h.2, if_neg (by omega)]; rfl
  refine ⟨by rw [List.length_set]; exact h.1, fun j => ?_⟩
  rw [List.getElem?_set, h.1]
  by_cases e : k + i = j
  · subst e
    rw [if_pos rfl, if_pos (by omega), if_pos (by omega), show k + i - k = i by omega, hm]
  · rw [if_neg e, h.2]
    by_cases a : k ≤ j ∧ j < k + i
    · rw [if_pos a, if_pos (by omega)]
    · rw [if_neg a, if_neg (by omega)]
theorem mend_stay {L M : List Cl} {k m i : Nat} (h : MendTo L k m i M) (hi : i < m) (hk : k + m ≤ L.length) {c : Cl} (hc : M[k + i]? = some c)
    (hx : mendAt (if i = 0 then none else M[k + i - 1]?) c (if i + 1 = m then none else M[k + i + 1]?) = c) : MendTo L k m (i + 1) M := by
  have := mend_step h hi hk hc hx
  have e : M.set (k + i) c = M := by
    apply List.ext_getElem?
    intro j
    rw [List.getElem?_set]
    by_cases e : k + i = j
    · subst e; rw [if_pos rfl, if_pos (by rw [h.1]; omega), hc]
    · rw [if_neg e]
  rwa [e] at this
/-- The part of a slice of the call's own, cell by cell. -/
theorem own_part {W : World} {B g n c : Nat} {L : List Cl} (h : OwnC W B (.slice (some ⟨g, 0, none⟩) n c) L) {k j : Nat} {x : Cl} (hx : L[k + j]? = some x) :
    W.cell? ⟨g, k * 6 + j * 6, none⟩ = some (.int .i32 x.r) ∧ W.cell? ⟨g, k * 6 + j * 6 + 1, none⟩ = some (.int .i64 x.w) ∧ W.cell? ⟨g, k * 6 + j * 6 + 2, none⟩ = some (.int .i64 x.fg) ∧ W.cell? ⟨g, k * 6 + j * 6 + 3, none⟩ = some (.bool x.bo) ∧ W.cell? ⟨g, k * 6 + j * 6 + 4, none⟩ = some (.bool x.un) ∧ W.cell? ⟨g, k * 6 + j * 6 + 5, none⟩ = some (.bool x.iv) := by
  have := h.cls.get hx
  rw [Nat.add_mul, Nat.zero_add] at this
  exact this
theorem own_set_part {W : World} {B g n c : Nat} {L : List Cl} (h : OwnC W B (.slice (some ⟨g, 0, none⟩) n c) L) (hn : L.length = n) {k j : Nat} (hj : k + j < n) (x : Cl) :
    OwnC ((((((W.setCell ⟨g, k * 6 + j * 6, none⟩ (.int .i32 x.r)).setCell ⟨g, k * 6 + j * 6 + 1, none⟩ (.int .i64 x.w)).setCell ⟨g, k * 6 + j * 6 + 2, none⟩ (.int .i64 x.fg)).setCell ⟨g, k * 6 + j * 6 + 3, none⟩ (.bool x.bo)).setCell ⟨g, k * 6 + j * 6 + 4, none⟩ (.bool x.un)).setCell ⟨g, k * 6 + j * 6 + 5, none⟩ (.bool x.iv)) B (.slice (some ⟨g, 0, none⟩) n c) (L.set (k + j) x) := by
  rw [← Nat.add_mul]
  exact own_set6 h hn hj x
theorem OwnC.under {w W : World} {B C g n c : Nat} {L : List Cl} (h : OwnC w B (.slice (some ⟨g, 0, none⟩) n c) L) (hb : Below C w W) (hg : g < C) : OwnC W B (.slice (some ⟨g, 0, none⟩) n c) L := by
  refine ⟨h.1, ?_⟩
  rcases h.2 with h0 | ⟨g', cap, cur, e, hg', hh, q⟩
  · exact .inl h0
  · injection e with e e2; injection e with e; injection e with e; subst e
    refine .inr ⟨g, cap, cur, ?_, hg', (hb.block g hg).trans hh, q⟩
    rw [← e2]
    congr 1
theorem OwnC.inb {W : World} {B g n c : Nat} {L : List Cl} (h : OwnC W B (.slice (some ⟨g, 0, none⟩) n c) L) : g < W.heap.size := by
  rcases h.2 with ⟨e, h0⟩ | ⟨g', cap, cur, e, hg, hh, r⟩
  · cases e
  · injection e with e; injection e with e; injection e with e; subst e
    exact (Array.getElem?_eq_some_iff.1 hh).1
theorem grown_below {w W : World} (h : Below w.heap.size w W) (g : Option Nat) : w.grownBy W g := ⟨h.os, h.tape, h.output, h.size, fun k hk _ => h.block k hk⟩
theorem mend_cut (p : Option Cl) (c : Cl) (n : Option Cl) : mendAt p c n = if c.w = 2 then (if n.all (fun d => decide (d.w ≠ 0)) = true then blankC else c) else if c.w = 0 then (if p.all (fun d => decide (d.w ≠ 2)) = true then blankC else c) else c := by
  unfold mendAt
  by_cases h2 : c.w = 2
  · have h0 : ¬ c.w = 0 := by omega
    rw [if_pos h2]
    simp only [h2, true_and, show ¬ ((2 : Int) = 0) by omega, false_and, or_false]
  · rw [if_neg h2]
    by_cases h0 : c.w = 0
    · rw [if_pos h0]
      simp only [h0, true_and, show ¬ ((0 : Int) = 2) by omega, false_and, false_or]
    · rw [if_neg h0, if_neg (by simp [h2, h0])]
end Go.Proofs.YtmpajkfbiocmiaaDoor
namespace Go.Proofs.YtmpajkfbiocmiaaDoor

/-- The cell of a rune in a style. -/
def inkC (x : Cl) : Cl := ⟨x.r, cells x.r, x.fg, x.bo, x.un, x.iv⟩
/-- Is there anything to be put in? -/
def okP (f : Fr) (row col : Int) (x : Cl) : Bool := decide (cells x.r ≠ 0) && styC x && decide (0 ≤ row ∧ row < f.rows ∧ 0 ≤ col ∧ col + cells x.r ≤ f.cols)
def putF (f : Fr) (row col : Int) (x : Cl) : Fr :=
  if validF f = true then if okP f row col x = true then ⟨f.rows, f.cols, putL f.cs (row * f.cols + col).toNat (cells x.r).toNat (inkC x), f.row, f.col⟩ else f else noF
/-- What is known of a frame that may be. -/
theorem valid_facts {f : Fr} (h : validF f = true) : ∃ R C : Nat, f.rows = R ∧ f.cols = C ∧ 2 ≤ R ∧ R ≤ 100 ∧ 8 ≤ C ∧ C ≤ 200 ∧ f.cs.length = R * C ∧ 0 ≤ f.row ∧ f.row < R ∧ 0 ≤ f.col ∧ f.col < C ∧ validL f.cs R C = true := by
  unfold validF mayB sizeB curB at h
  simp only [Bool.and_eq_true, decide_eq_true_eq] at h
  obtain ⟨⟨⟨⟨m1, m2, m3, m4⟩, hs⟩, c1, c2, c3, c4⟩, hv⟩ := h
  obtain ⟨R, hR⟩ : ∃ R : Nat, f.rows = R := ⟨f.rows.toNat, by omega⟩
  obtain ⟨C, hC⟩ : ∃ C : Nat, f.cols = C := ⟨f.cols.toNat, by omega⟩
  rw [hR, hC] at hs hv
  rw [hR] at m1 m2 c2
  rw [hC] at m3 m4 c4
  refine ⟨R, C, hR, hC, by omega, by omega, by omega, by omega, by exact_mod_cast hs, c1, c2, c3, c4, ?_⟩
  simpa using hv
theorem frame_of {R C : Nat} {cs : List Cl} {row col : Int} (h1 : 2 ≤ R) (h2 : R ≤ 100) (h3 : 8 ≤ C) (h4 : C ≤ 200) (hs : cs.length = R * C) (hc : 0 ≤ row ∧ row < R ∧ 0 ≤ col ∧ col < C) (hv : validL cs R C = true) : validF ⟨R, C, cs, row, col⟩ = true := by
  unfold validF mayB sizeB curB
  simp only [Bool.and_eq_true, decide_eq_true_eq, Int.toNat_natCast]
  exact ⟨⟨⟨by omega, by exact_mod_cast hs⟩, hc⟩, hv⟩
theorem size_small {R C : Nat} (h1 : 2 ≤ R) (h2 : R ≤ 100) (h3 : 8 ≤ C) (h4 : C ≤ 200) : 16 ≤ R * C ∧ R * C ≤ 20000 :=
  ⟨Nat.mul_le_mul h1 h3, Nat.mul_le_mul h2 h4⟩
theorem spot_in {R C k j : Nat} (hk : k < R) (hj : j < C) : k * C + j < R * C := by
  have : (k + 1) * C ≤ R * C := Nat.mul_le_mul_right _ hk
  rw [Nat.add_mul, Nat.one_mul] at this
  omega
theorem wipe_next {l : List Cl} (h : rowB l = true) {i : Nat} (hi : i + 2 ≤ l.length) : ∃ y, (wipeL l i)[i + 1]? = some y ∧ (y.w = 2 → i + 1 + 1 < l.length) := by
  have hx := List.getElem?_eq_getElem (show i < l.length by omega)
  have hy := List.getElem?_eq_getElem (show i + 1 < l.length by omega)
  obtain ⟨g1, g2, g3⟩ := row_facts h (i + 1) _ hy
  refine ⟨if l[i].w = 2 then blankC else l[i + 1], ?_, fun h2 => ?_⟩
  · unfold wipeL
    rw [getD_some hx]
    by_cases h2 : l[i].w = 2
    · rw [if_pos h2, if_pos h2]; simp [List.getElem?_set]; omega
    · rw [if_neg h2, if_neg h2]
      split
      · simp only [List.getElem?_set]; simp [show ¬ i - 1 = i + 1 by omega, hy]
      · simp only [List.getElem?_set]; simp [hy]
  · by_cases h9 : l[i].w = 2
    · rw [if_pos h9] at h2; cases h2
    · rw [if_neg h9] at h2
      obtain ⟨d, hd, _⟩ := g2 h2
      exact (List.getElem?_eq_some_iff.1 hd).1
theorem putL_1 (L : List Cl) (i : Nat) (c : Cl) : putL L i 1 c = (wipeL L i).set i c := by unfold putL; rw [if_neg (by omega)]
theorem putL_2 (L : List Cl) (i : Nat) (c : Cl) : putL L i 2 c = ((wipeL (wipeL L i) (i + 1)).set (i + 1) (halfC c)).set i c := by unfold putL; rw [if_pos rfl]
theorem replR_self {L : List Cl} {R C k : Nat} (hL : L.length = R * C) (hk : k < R) : replR L C k (rowL L C k) = L := by
  apply List.ext_getElem?
  intro j
  rw [replR_at hL hk (rowL_len hL hk)]
  have h2 : (k + 1) * C = k * C + C := by rw [Nat.add_mul, Nat.one_mul]
  split
  · rw [rowL_at (by omega), show k * C + (j - k * C) = j by omega]
  · rfl
theorem replR_len {L l : List Cl} {R C k : Nat} (hL : L.length = R * C) (hk : k < R) (hl : l.length = C) : (replR L C k l).length = R * C := by
  have h1 : (k + 1) * C ≤ R * C := Nat.mul_le_mul_right _ hk
  have h2 : (k + 1) * C = k * C + C := by rw [Nat.add_mul, Nat.one_mul]
  unfold replR
  rw [List.length_append, List.length_append, List.length_take, List.length_drop, hl, hL]
  omega
theorem replR_set {L l : List Cl} {R C k i : Nat} (hL : L.length = R * C) (hk : k < R) (hl : l.length = C) (hi : i < C) (x : Cl) : (replR L C k l).set (k * C + i) x = replR L C k (l.set i x) := by
  have h2 : (k + 1) * C = k * C + C := by rw [Nat.add_mul, Nat.one_mul]
  have h3 := spot_in hk hi
  apply List.ext_getElem?
  intro j
  rw [List.getElem?_set, replR_len hL hk hl, replR_at hL hk (l := l.set i x) (by rw [List.length_set]; exact hl), replR_at hL hk hl, List.getElem?_set, hl]
  by_cases e : k * C + i = j
  · subst e
    rw [if_pos rfl, if_pos h3, if_pos (by omega), if_pos (by omega), if_pos hi]
  · rw [if_neg e]
    split
    · rw [if_neg (by omega)]
    · rfl
theorem replR_part {L l : List Cl} {R C k : Nat} (hL : L.length = R * C) (hk : k < R) (hl : l.length = C) : ((replR L C k l).drop (k * C)).take C = l := by
  have h1 : (k + 1) * C ≤ R * C := Nat.mul_le_mul_right _ hk
  have h2 : (k + 1) * C = k * C + C := by rw [Nat.add_mul, Nat.one_mul]
  apply List.ext_getElem?
  intro j
  by_cases hj : j < C
  · rw [List.getElem?_take_of_lt hj, List.getElem?_drop, replR_at hL hk hl, if_pos (by omega), show k * C + j - k * C = j by omega]
  · rw [List.getElem?_take_eq_none (by omega), List.getElem?_eq_none (by omega)]
theorem replR_repl {L l m : List Cl} {R C k : Nat} (hL : L.length = R * C) (hk : k < R) (hl : l.length = C) : replR (replR L C k l) C k m = replR L C k m := by
  have h1 : (k + 1) * C ≤ R * C := Nat.mul_le_mul_right _ hk
  have h2 : (k + 1) * C = k * C + C := by rw [Nat.add_mul, Nat.one_mul]
  have e1 : (L.take (k * C)).length = k * C := by rw [List.length_take]; omega
  have a : (replR L C k l).take (k * C) = L.take (k * C) := by
    unfold replR
    rw [List.append_assoc, List.take_append_of_le_length (by omega), List.take_of_length_le (by omega)]
  have b : (replR L C k l).drop ((k + 1) * C) = L.drop ((k + 1) * C) := by
    unfold replR
    rw [List.drop_append_of_le_length (by rw [List.length_append]; omega), List.drop_eq_nil_of_le (by rw [List.length_append]; omega), List.nil_append]
  show _ ++ m ++ _ = _
  rw [a, b]
  rfl
theorem blank_1 (l : List Cl) (i : Nat) : blankN l i 1 = l.set i blankC := by unfold blankN; rw [if_neg (by omega)]
theorem blank_2 (l : List Cl) (i : Nat) : blankN l i 2 = (l.set i blankC).set (i + 1) blankC := by unfold blankN; rw [if_pos rfl]
end Go.Proofs.YtmpajkfbiocmiaaDoor
namespace Go.Proofs.YtmpajkfbiocmiaaDoor
open Go.RowKit

/-- A frame is stored in its box. -/
def frSet (W : World) (z : Nat) (a b : Int) (s : Value) (c d : Int) : World := ((((W.setCell ⟨z, 0, none⟩ (.int .i64 a)).setCell ⟨z, 1, none⟩ (.int .i64 b)).setCell ⟨z, 2, none⟩ s).setCell ⟨z, 3, none⟩ (.int .i64 c)).setCell ⟨z, 4, none⟩ (.int .i64 d)
theorem fr_put {W : World} {z : Nat} {a b c d : Int} {s : Value} (h : Blk W z 31 (frCells a b s c d)) (a' b' : Int) (s' : Value) (c' d' : Int) : Blk (frSet W z a' b' s' c' d') z 31 (frCells a' b' s' c' d') :=
  ((((h.set 0 _).set 1 _).set 2 _).set 3 _).set 4 _
theorem fr_far {W : World} {k z : Nat} {t : TypeId} {cs : List Value} (h : Blk W k t cs) (hz : z ≠ k) (a b : Int) (s : Value) (c d : Int) : Blk (frSet W z a b s c d) k t cs :=
  ((((h.far (p := ⟨z, 0, none⟩) hz _).far (p := ⟨z, 1, none⟩) hz _).far (p := ⟨z, 2, none⟩) hz _).far (p := ⟨z, 3, none⟩) hz _).far (p := ⟨z, 4, none⟩) hz _
theorem fr_low {W : World} {B z : Nat} {v : Value} {L : List Cl} (h : OwnC W B v L) (hz : z < B) (a b : Int) (s : Value) (c d : Int) : OwnC (frSet W z a b s c d) B v L :=
  ((((h.low (p := ⟨z, 0, none⟩) hz _).low (p := ⟨z, 1, none⟩) hz _).low (p := ⟨z, 2, none⟩) hz _).low (p := ⟨z, 3, none⟩) hz _).low (p := ⟨z, 4, none⟩) hz _
theorem fr_below {w W : World} {B z : Nat} (h : Below B w W) (hz : B ≤ z) (a b : Int) (s : Value) (c d : Int) : Below B w (frSet W z a b s c d) :=
  ((((h.setCell (p := ⟨z, 0, none⟩) hz _).setCell (p := ⟨z, 1, none⟩) hz _).setCell (p := ⟨z, 2, none⟩) hz _).setCell (p := ⟨z, 3, none⟩) hz _).setCell (p := ⟨z, 4, none⟩) hz _
theorem fr_reads {W : World} {z : Nat} {a b c d : Int} {s : Value} (h : Blk W z 31 (frCells a b s c d)) : W.cell? ⟨z, 0, none⟩ = some (.int .i64 a) ∧ W.cell? ⟨z, 1, none⟩ = some (.int .i64 b) ∧ W.cell? ⟨z, 2, none⟩ = some s ∧ W.cell? ⟨z, 3, none⟩ = some (.int .i64 c) ∧ W.cell? ⟨z, 4, none⟩ = some (.int .i64 d) ∧ ∀ i, W.frozen? ⟨z, i, none⟩ = false :=
  ⟨h.cell (i := 0) rfl, h.cell (i := 1) rfl, h.cell (i := 2) rfl, h.cell (i := 3) rfl, h.cell (i := 4) rfl, fun i => h.frozen i⟩
def styCells (fg : Int) (bo un iv : Bool) : List Value := [.int .i64 fg, .bool bo, .bool un, .bool iv]
theorem sty_reads {W : World} {z : Nat} {fg : Int} {bo un iv : Bool} (h : Blk W z 28 (styCells fg bo un iv)) : W.cell? ⟨z, 0, none⟩ = some (.int .i64 fg) ∧ W.cell? ⟨z, 1, none⟩ = some (.bool bo) ∧ W.cell? ⟨z, 2, none⟩ = some (.bool un) ∧ W.cell? ⟨z, 3, none⟩ = some (.bool iv) :=
  ⟨h.cell (i := 0) rfl, h.cell (i := 1) rfl, h.cell (i := 2) rfl, h.cell (i := 3) rfl⟩
/-- The three boxes. -/
def Bx3 (W : World) (z : Nat) (a b : Int) (s : Value) (c d fg : Int) (bo un iv : Bool) : Prop := Blk W z 31 (frCells a b s c d) ∧ Blk W (z + 1) 28 (styCells fg bo un iv) ∧ Blk W (z + 1 + 1) 31 (frCells 0 0 (.slice none 0 0) 0 0)
theorem bx_new (w : World) (a b : Int) (s : Value) (c d fg : Int) (bo un iv : Bool) : Bx3 (((w.alloc (.cells (frCells a b s c d).toArray 31)).alloc (.cells (styCells fg bo un iv).toArray 28)).alloc (.cells (frCells 0 0 (.slice none 0 0) 0 0).toArray 31)) w.heap.size a b s c d fg bo un iv := by
  have h1 := Blk.new (w.alloc (.cells (frCells a b s c d).toArray 31)) 28 (styCells fg bo un iv)
  have h2 := Blk.new ((w.alloc (.cells (frCells a b s c d).toArray 31)).alloc (.cells (styCells fg bo un iv).toArray 28)) 31 (frCells 0 0 (.slice none 0 0) 0 0)
  rw [World.size_alloc] at h1
  rw [World.size_alloc, World.size_alloc] at h2
  exact ⟨((Blk.new w _ _).alloc _).alloc _, h1.alloc _, h2⟩
theorem Bx3.below {W W' : World} {z : Nat} {a b c d fg : Int} {s : Value} {bo un iv : Bool} (h : Bx3 W z a b s c d fg bo un iv) (hb : Below W.heap.size W W') : Bx3 W' z a b s c d fg bo un iv := ⟨h.1.below hb, h.2.1.below hb, h.2.2.below hb⟩
theorem Blk.grown {W W' : World} {z g : Nat} {t : TypeId} {cs : List Value} (h : Blk W z t cs) (hg : W.grownBy W' (some g)) (hne : z ≠ g) : Blk W' z t cs := (hg.block z h.lt (fun e => hne (Option.some.inj e))).trans h
theorem Bx3.grown {W W' : World} {z g : Nat} {a b c d fg : Int} {s : Value} {bo un iv : Bool} (h : Bx3 W z a b s c d fg bo un iv) (hg : W.grownBy W' (some g)) (hz : z + 1 + 1 < g) : Bx3 W' z a b s c d fg bo un iv := ⟨h.1.grown hg (by omega), h.2.1.grown hg (by omega), h.2.2.grown hg (by omega)⟩
theorem Bx3.put {W : World} {z : Nat} {a b c d fg : Int} {s : Value} {bo un iv : Bool} (h : Bx3 W z a b s c d fg bo un iv) (a' b' : Int) (s' : Value) (c' d' : Int) : Bx3 (frSet W z a' b' s' c' d') z a' b' s' c' d' fg bo un iv :=
  ⟨fr_put h.1 _ _ _ _ _, fr_far h.2.1 (by omega) _ _ _ _ _, fr_far h.2.2 (by omega) _ _ _ _ _⟩
theorem Bx3.reads {W : World} {z : Nat} {a b c d fg : Int} {s : Value} {bo un iv : Bool} (h : Bx3 W z a b s c d fg bo un iv) :
    (W.cell? ⟨z, 0, none⟩ = some (.int .i64 a) ∧ W.cell? ⟨z, 1, none⟩ = some (.int .i64 b) ∧ W.cell? ⟨z, 2, none⟩ = some s ∧ W.cell? ⟨z, 3, none⟩ = some (.int .i64 c) ∧ W.cell? ⟨z, 4, none⟩ = some (.int .i64 d) ∧ ∀ i, W.frozen? ⟨z, i, none⟩ = false) ∧
    (W.cell? ⟨z + 1, 0, none⟩ = some (.int .i64 fg) ∧ W.cell? ⟨z + 1, 1, none⟩ = some (.bool bo) ∧ W.cell? ⟨z + 1, 2, none⟩ = some (.bool un) ∧ W.cell? ⟨z + 1, 3, none⟩ = some (.bool iv)) ∧
    (W.cell? ⟨z + 1 + 1, 0, none⟩ = some (.int .i64 0) ∧ W.cell? ⟨z + 1 + 1, 1, none⟩ = some (.int .i64 0) ∧ W.cell? ⟨z + 1 + 1, 2, none⟩ = some (.slice none 0 0) ∧ W.cell? ⟨z + 1 + 1, 3, none⟩ = some (.int .i64 0) ∧ W.cell? ⟨z + 1 + 1, 4, none⟩ = some (.int .i64 0) ∧ ∀ i, W.frozen? ⟨z + 1 + 1, i, none⟩ = false) :=
  ⟨fr_reads h.1, sty_reads h.2.1, fr_reads h.2.2⟩
theorem FrOwn.open {W : World} {B n : Nat} {v : Value} {a b c d : Int} {cs : List Cl} (h : FrOwn W B v ⟨a, b, cs, c, d⟩) (hn : cs.length = n) (h0 : 0 < n) : ∃ g cap, v = .agg #[.int .i64 a, .int .i64 b, .slice (some ⟨g, 0, none⟩) n cap, .int .i64 c, .int .i64 d] ∧ cap ≤ maxLen ∧ OwnC W B (.slice (some ⟨g, 0, none⟩) n cap) cs ∧ B ≤ g := by
  subst hn
  obtain ⟨A, cap, rfl, h1, h2⟩ := h
  obtain ⟨g, c', e, -, hg⟩ := h2.formN h0
  injection e with e

  subst e
  exact ⟨g, cap, rfl, h1, h2, hg⟩
theorem fr_own {W : World} {B g n cap : Nat} {a b c d : Int} {cs : List Cl} (hn : cs.length = n) (hcap : cap ≤ maxLen) (h : OwnC W B (.slice (some ⟨g, 0, none⟩) n cap) cs) : FrOwn W B (.agg #[.int .i64 a, .int .i64 b, .slice (some ⟨g, 0, none⟩) n cap, .int .i64 c, .int .i64 d]) ⟨a, b, cs, c, d⟩ := by
  subst hn
  exact ⟨_, cap, rfl, hcap, h⟩
theorem FrOwn.mono {W : World} {B C : Nat} {v : Value} {f : Fr} (h : FrOwn W B v f) (hc : C ≤ B) : FrOwn W C v f := by
  obtain ⟨A, cap, e, h1, h2⟩ := h
  exact ⟨A, cap, e, h1, h2.mono hc⟩
theorem fr_nil (W : World) (B : Nat) : FrOwn W B (.agg #[.int .i64 0, .int .i64 0, .slice none 0 0, .int .i64 0, .int .i64 0]) noF := ⟨none, 0, rfl, by unfold maxLen; omega, ⟨rfl, .inl ⟨rfl, rfl⟩⟩⟩
theorem valid_is (f : Fr) (b : Bool) (hx : validF f = b) (v : Value) (w : World) (h : FrAt w v f) (hT : WTabs w) : Calls Tryd.prog 8 #[v] w fun e w' => e = .returned (.bool b) ∧ Below w.heap.size w w' := by
  subst hx; exact valid_any f v w h hT
theorem wof_is (r x : Int) (hx : cells r = x) (w : World) (hT : WTabs w) : Calls Tryd.prog 26 #[.int .i32 r] w fun e w' => e = .returned (.int .i64 x) ∧ Below w.heap.size w w' := by
  subst hx; exact wof_any r w hT
theorem style_is (c : Cl) (x : Bool) (hx : styC c = x) (w : World) : Calls Tryd.prog 27 #[.agg #[.int .i64 c.fg, .bool c.bo, .bool c.un, .bool c.iv]] w fun e w' => e = .returned (.bool x) ∧ Below w.heap.size w w' := by
  subst hx; exact style_any c w
end Go.Proofs.YtmpajkfbiocmiaaDoor
namespace Go.Proofs.YtmpajkfbiocmiaaDoor

/-- The cells of a row, cut or filled up. -/
def fillL (l : List Cl) (n : Nat) : List Cl := l.take n ++ List.replicate (n - l.length) blankC
/-- A row in another width: what is cut at the end is a blank. -/
def rowR (l : List Cl) (n : Nat) : List Cl := if ((fillL l n).getD (n - 1) blankC).w = 2 then (fillL l n).set (n - 1) blankC else fillL l n
theorem fill_len (l : List Cl) (n : Nat) : (fillL l n).length = n := by unfold fillL; rw [List.length_append, List.length_take, List.length_replicate]; omega
theorem rowR_len (l : List Cl) (n : Nat) : (rowR l n).length = n := by unfold rowR; split <;> simp [fill_len]
theorem fill_at (l : List Cl) (n j : Nat) : (fillL l n)[j]? = if j < n then some (l.getD j blankC) else none := by
  unfold fillL
  by_cases h1 : j < (l.take n).length
  · rw [List.getElem?_append_left h1]
    rw [List.length_take] at h1
    rw [List.getElem?_take_of_lt (by omega), if_pos (by omega), List.getElem?_eq_getElem (show j < l.length by omega), getD_some (List.getElem?_eq_getElem (show j < l.length by omega))]
  · rw [List.getElem?_append_right (by omega)]
    rw [List.length_take] at h1 ⊢
    by_cases h2 : j < n
    · rw [if_pos h2, List.getElem?_replicate, if_pos (by omega), List.getD_eq_getElem?_getD, List.getElem?_eq_none (by omega)]; rfl
    · rw [if_neg h2, List.getElem?_replicate, if_neg (by omega)]
theorem rowR_at (l : List Cl) {n : Nat} (hn : 0 < n) (j : Nat) : (rowR l n)[j]? = if j < n then some (if j = n - 1 ∧ (l.getD j blankC).w = 2 then blankC else l.getD j blankC) else none := by
  have hd : (fillL l n).getD (n - 1) blankC = l.getD (n - 1) blankC := getD_some (by rw [fill_at, if_pos (by omega)])
  unfold rowR
  rw [hd]
  split
  case isTrue h =>
    rw [List.getElem?_set, fill_len, fill_at]
    by_cases e : n - 1 = j
    · subst e
      rw [if_pos rfl, if_pos (by omega), if_pos (by omega), if_pos ⟨rfl, h⟩]
    · rw [if_neg e]
      simp [show ¬ j = n - 1 from fun h => e h.symm]
  case isFalse h =>
    rw [fill_at]
    by_cases e : j = n - 1
    · rw [if_neg (fun x : j = n - 1 ∧ _ => h (by rw [← x.1]; exact x.2))]
    · rw [if_neg (fun x : j = n - 1 ∧ _ => e x.1)]
/-- What is mended in a row that was one. -/
theorem mend_fill {l : List Cl} (h : rowB l = true) {n : Nat} (hn : 0 < n) : mendL none (fillL l n) = rowR l n := by
  apply List.ext_getElem?
  intro j
  rw [mendL_at, rowR_at l hn, fill_at l n j]
  by_cases hj : j < n
  · rw [if_pos hj, if_pos hj, Option.map_some]
    congr 1
    by_cases hl : j < l.length
    · have hx := List.getElem?_eq_getElem hl
      obtain ⟨c, hc⟩ : ∃ c, l[j] = c := ⟨_, rfl⟩
      rw [hc] at hx
      rw [getD_some hx]
      have hk := mend_keep h hx
      obtain ⟨f1, f2, f3⟩ := row_facts h j c hx
      have hp : (if j = 0 then none else (fillL l n)[j - 1]?) = if j = 0 then none else l[j - 1]? := by
        split
        · rfl
        · rw [fill_at, if_pos (by omega), List.getElem?_eq_getElem (show j - 1 < l.length by omega), getD_some (List.getElem?_eq_getElem (show j - 1 < l.length by omega))]
      rw [hp]
      by_cases he : j = n - 1
      · rw [fill_at l n (j + 1), if_neg (show ¬ j + 1 < n by omega)]
        by_cases h2 : c.w = 2
        · rw [if_pos (show j = n - 1 ∧ c.w = 2 from ⟨he, h2⟩)]
          exact if_pos (.inl ⟨h2, rfl⟩)
        · rw [if_neg (show ¬ (j = n - 1 ∧ c.w = 2) from fun x => h2 x.2)]
          refine if_neg ?_
          rintro (⟨a, b⟩ | ⟨a, b⟩)
          · exact h2 a
          · obtain ⟨h1, d, hd, hd2⟩ := f3 a
            rw [if_neg (show ¬ j = 0 by omega), hd] at b
            simp [hd2] at b
      · rw [if_neg (fun x : j = n - 1 ∧ c.w = 2 => he x.1), fill_at l n (j + 1), if_pos (show j + 1 < n by omega)]
        by_cases h2 : c.w = 2
        · obtain ⟨d, hd, hd2⟩ := f2 h2
          rw [getD_some hd]
          rw [hd] at hk
          exact hk
        · refine if_neg ?_
          rintro (⟨a, b⟩ | ⟨a, b⟩)
          · exact h2 a
          · obtain ⟨h1, d, hd, hd2⟩ := f3 a
            rw [if_neg (show ¬ j = 0 by omega), hd] at b
            simp [hd2] at b
    · have e : l.getD j blankC = blankC := by rw [List.getD_eq_getElem?_getD, List.getElem?_eq_none (by omega)]; rfl
      rw [e, if_neg (show ¬ (j = n - 1 ∧ blankC.w = 2) from fun x => absurd x.2 (by decide))]
      exact if_neg (by rintro (⟨a, b⟩ | ⟨a, b⟩) <;> exact absurd a (by decide))
  · rw [if_neg hj, if_neg hj]; rfl
/-- The screen of R' rows of n cells, of which i have been filled. -/
def resTo (L : List Cl) (C n R' : Nat) : Nat → List Cl
  | 0 => List.replicate (R' * n) blankC
  | i + 1 => replR (resTo L C n R' i) n i (rowR (rowL L C i) n)
theorem resTo_len (L : List Cl) (C n R' : Nat) : ∀ i, i ≤ R' → (resTo L C n R' i).length = R' * n
  | 0, _ => by simp [resTo]
  | i + 1, h => replR_len (resTo_len L C n R' i (by omega)) (by omega) (rowR_len _ _)
theorem row_replR {L l : List Cl} {R C k : Nat} (hL : L.length = R * C) (hk : k < R) (hl : l.length = C) (q : Nat) : rowL (replR L C k l) C q = if q = k then l else rowL L C q := by
  split
  case isTrue h => subst h; exact replR_part hL hk hl
  case isFalse h =>
    apply List.ext_getElem?
    intro j
    unfold rowL
    by_cases hj : j < C
    · rw [List.getElem?_take_of_lt hj, List.getElem?_take_of_lt hj, List.getElem?_drop, List.getElem?_drop, replR_at hL hk hl, if_neg]
      rintro ⟨a, b⟩
      rcases Nat.lt_or_gt_of_ne h with h1 | h1
      · have : (q + 1) * C ≤ k * C := Nat.mul_le_mul_right _ h1
        rw [Nat.add_mul, Nat.one_mul] at this
        omega
      · have : (k + 1) * C ≤ q * C := Nat.mul_le_mul_right _ h1
        omega
    · rw [List.getElem?_take_eq_none (by omega), List.getElem?_take_eq_none (by omega)]
theorem resTo_row (L : List Cl) (C n R' : Nat) : ∀ i, i ≤ R' → ∀ q, q < R' → rowL (resTo L C n R' i) n q = if q < i then rowR (rowL L C q) n else List.replicate n blankC
  | 0, _, q, hq => by
    rw [if_neg (by omega)]
    have h1 : (q + 1) * n ≤ R' * n := Nat.mul_le_mul_right _ hq
    rw [Nat.add_mul, Nat.one_mul] at h1
    unfold rowL resTo
    rw [List.drop_replicate, List.take_replicate, Nat.min_eq_left (by omega)]
  | i + 1, h, q, hq => by
    rw [resTo, row_replR (resTo_len L C n R' i (by omega)) (by omega) (rowR_len _ _)]
    by_cases e : q = i
    · subst e; rw [if_pos rfl, if_pos (by omega)]
    · rw [if_neg e, resTo_row L C n R' i (by omega) q hq]
      by_cases a : q < i
      · rw [if_pos a, if_pos (by omega)]
      · rw [if_neg a, if_neg (by omega)]
theorem fill_step (l : List Cl) (n k : Nat) (x : Cl) (hx : l[k]? = some x) (hk : k < n) : (fillL (l.take k) n).set k x = fillL (l.take (k + 1)) n := by
  have hlt := (List.getElem?_eq_some_iff.1 hx).1
  apply List.ext_getElem?
  intro j
  rw [List.getElem?_set, fill_len, fill_at, fill_at]
  by_cases e : k = j
  · subst e
    rw [if_pos rfl, if_pos hk, if_pos hk, getD_some (by rw [List.getElem?_take_of_lt (by omega)]; exact hx)]
  · rw [if_neg e]
    congr 2
    rw [List.getD_eq_getElem?_getD, List.getD_eq_getElem?_getD]
    congr 1
    by_cases a : j < k
    · rw [List.getElem?_take_of_lt a, List.getElem?_take_of_lt (by omega)]
    · rw [List.getElem?_take_eq_none (by omega), List.getElem?_take_eq_none (by omega)]
theorem fill_0 (l : List Cl) (n : Nat) : fillL (l.take 0) n = List.replicate n blankC := by unfold fillL; simp
theorem fill_cut (l : List Cl) (n m : Nat) (h : n ≤ m ∨ l.length ≤ m) : fillL (l.take m) n = fillL l n := by
  apply List.ext_getElem?
  intro j
  rw [fill_at, fill_at]
  by_cases hj : j < n
  · rw [if_pos hj, if_pos hj]
    congr 1
    rw [List.getD_eq_getElem?_getD, List.getD_eq_getElem?_getD]
    congr 1
    by_cases a : j < m
    · rw [List.getElem?_take_of_lt a]
    · rw [List.getElem?_take_eq_none (by omega), List.getElem?_eq_none (by omega)]
  · rw [if_neg hj, if_neg hj]
/-- The frame of a size, of blanks. -/
def newF (rows cols : Int) : Fr := if mayB rows cols = true then ⟨rows, cols, List.replicate (rows.toNat * cols.toNat) blankC, 0, 0⟩ else noF
def newE (rows cols : Int) : Int := if mayB rows cols = true then 0 else 2
def resOk (f : Fr) (rows cols : Int) : Bool := mayB rows cols && validF f
def resF (f : Fr) (rows cols : Int) : Fr :=
  if resOk f rows cols = true then ⟨rows, cols, resTo f.cs f.cols.toNat cols.toNat rows.toNat (min rows.toNat f.rows.toNat), min f.row (rows - 1), min f.col (cols - 1)⟩ else noF
def resE (f : Fr) (rows cols : Int) : Int := if resOk f rows cols = true then 0 else 2
end Go.Proofs.YtmpajkfbiocmiaaDoor
namespace Go.Proofs.YtmpajkfbiocmiaaDoor
open Go.RowKit

theorem results_cell_tmp {P : Program} {fn : Func} {p q : Tmp} {ty : TypeId} (h : fn.results = #[.cell p ty, .tmp q]) (tmps : Array Value) (w : World) (g : Nat) (t : TypeId) (cs : Array Value) (fr : Nat × Nat) (d : TypeDesc) (v : Value)
    (hp : tmps.getD p undef = .pointer (some ⟨g, 0, none⟩)) (hq : tmps.getD q undef = v) (hg : w.heap[g]? = some (.cells cs t fr))
    (hu : P.underlying ty = some d) (hd : (match d with | .struct _ | .array _ _ => true | _ => false) = true) (hi : (P.info? ty).map (·.size) = some cs.size) :
    (results fn tmps).run P w = .ok (.tuple #[.agg cs, v]) w := by
  have hp' : tmps[p]?.getD undef = .pointer (some ⟨g, 0, none⟩) := by simpa using hp
  have hq' : tmps[q]?.getD undef = v := by simpa using hq
  simp [results, h, hp', hq', asAddr, run_loadVar_row w g t ty cs fr d hg hu hd hi]
def zeroC : Cl := ⟨0, 0, 0, false, false, false⟩
theorem made_zero (n : Nat) : (madeCells #[.int .i32 0, .int .i64 0, .int .i64 0, .bool false, .bool false, .bool false] (n * 6)).toList = flatC (List.replicate n zeroC) := by
  apply List.ext_getElem?
  intro j
  by_cases hj : j < n * 6
  · have h6 := flatC_at (List.replicate n zeroC) (j / 6) zeroC (by rw [List.getElem?_replicate, if_pos (by omega)]) (j % 6) (Nat.mod_lt _ (by omega))
    rw [show j / 6 * 6 + j % 6 = j by omega] at h6
    rw [h6]
    have hm : j % 6 < 6 := Nat.mod_lt _ (by omega)
    simp only [madeCells, Array.toList_map, Array.toList_range, List.getElem?_map, List.getElem?_range hj, Option.map_some]
    obtain ⟨m, e⟩ : ∃ m, j % 6 = m := ⟨_, rfl⟩
    rw [show (#[.int .i32 0, .int .i64 0, .int .i64 0, .bool false, .bool false, .bool false] : Array Value).size = 6 from rfl, e]
    rw [e] at hm
    have : m = 0 ∨ m = 1 ∨ m = 2 ∨ m = 3 ∨ m = 4 ∨ m = 5 := by omega
    rcases this with rfl | rfl | rfl | rfl | rfl | rfl <;> rfl
  · rw [List.getElem?_eq_none (by simp [size_madeCells]; omega), List.getElem?_eq_none (by rw [flatC_len]; simp; omega)]
/-- The first i of n cells are blanks. -/
def newTo (n i : Nat) : List Cl := List.replicate i blankC ++ List.replicate (n - i) zeroC
theorem newTo_len {n i : Nat} (h : i ≤ n) : (newTo n i).length = n := by unfold newTo; rw [List.length_append, List.length_replicate, List.length_replicate]; omega
theorem newTo_0 (n : Nat) : newTo n 0 = List.replicate n zeroC := by unfold newTo; simp
theorem newTo_all (n : Nat) : newTo n n = List.replicate n blankC := by unfold newTo; simp
theorem newTo_step {n i : Nat} (h : i < n) : (newTo n i).set i blankC = newTo n (i + 1) := by
  unfold newTo
  obtain ⟨d, hd⟩ : ∃ d, n - i = d + 1 := ⟨n - i - 1, by omega⟩
  rw [hd, show n - (i + 1) = d by omega, List.replicate_succ, List.set_append_right _ _ (by simp), List.length_replicate, Nat.sub_self, List.set_cons_zero, List.replicate_succ', List.append_assoc]
  rfl
theorem OwnC.off {W : World} {B g n c : Nat} {L : List Cl} (h : OwnC W B (.slice (some ⟨g, 0, none⟩) n c) L) {p : Addr} (hp : p.block ≠ g) (x : Value) : OwnC (W.setCell p x) B (.slice (some ⟨g, 0, none⟩) n c) L := by
  refine ⟨h.1, ?_⟩
  rcases h.2 with h0 | ⟨g', cap, cur, e, hg, hh, q⟩
  · exact .inl h0
  · injection e with e e2; injection e with e; injection e with e; subst e
    refine .inr ⟨g, cap, cur, ?_, hg, (Below.heap_setCell _ _ _ _ (fun e => hp e.symm)).trans hh, q⟩
    rw [← e2]
    congr 1
theorem info_z : Value.cells (.agg #[.int .i32 0, .int .i64 0, .int .i64 0, .bool false, .bool false, .bool false]) = #[.int .i32 0, .int .i64 0, .int .i64 0, .bool false, .bool false, .bool false] := by rfl
theorem newF_bad {rows cols : Int} (h : mayB rows cols = false) : newF rows cols = noF ∧ newE rows cols = 2 := by unfold newF newE; rw [h]; exact ⟨rfl, rfl⟩
theorem newF_ok {R C : Nat} (h : mayB R C = true) : newF R C = ⟨R, C, List.replicate (R * C) blankC, 0, 0⟩ ∧ newE R C = 0 := by unfold newF newE; rw [if_pos h, if_pos h]; simp
theorem may_bl (a b : Int) (x : Bool) (hx : mayB a b = x) (w : World) : Calls Tryd.prog 12 #[.int .i64 a, .int .i64 b] w fun e w' => e = .returned (.bool x) ∧ Below w.heap.size w w' :=
  (may_is a b x hx w).mono (by rintro e w' ⟨rfl, rfl⟩; exact ⟨rfl, Below.refl _ _⟩)
set_option maxRecDepth 100000 in
set_option maxHeartbeats 2000000 in
theorem new_frame (rows cols : Int) (w : World) (hB : BTab w) :
    Calls Tryd.prog 10 #[.int .i64 rows, .int .i64 cols] w fun e w' => ∃ v', e = .returned (.tuple #[v', .int .i64 (newE rows cols)]) ∧ FrOwn w' w.heap.size v' (newF rows cols) ∧ Below w.heap.size w w' := by
  have hlt := World.block_lt_of_cell? _ _ hB.1
  dsimp only at hlt
  have HBT := hide hB
  clear hB
  have HK := hide (Blk.new w 31 (frCells 0 0 (.slice none 0 0) 0 0))
  have HB0 := hide (show Below w.heap.size w (w.alloc (.cells (frCells 0 0 (.slice none 0 0) 0 0).toArray 31)) from (Below.refl _ _).alloc (Nat.le_refl _) _)
  by_cases hmay : mayB rows cols = true
  case neg =>
    have hm0 : mayB rows cols = false := by simpa using hmay
    have HN := hide (newF_bad hm0)
    have HM := hide hm0
    clear hm0 hmay
    go_enter Tryd.func10, Tryd.ntmps10
    go_wp2_with (first | (go_at_call 12; refine (may_bl _ _ _ HM.out _).mono ?_; rintro e w0 ⟨rfl, hb0⟩; have HK0 := hide (HK.out.below hb0); have HB := hide (HB0.out.trans (hb0.mono HB0.out.size)); obtain ⟨z0, z1, z2, z3, z4, zf⟩ := fr_reads HK0.out; have hz := HK0.out.lt; clear hb0) | fail)
    refine bodyPost_ret (results_cell_tmp rfl _ _ w.heap.size 31 (frCells 0 0 (.slice none 0 0) 0 0).toArray (0, 0) _ (.int .i64 2) rfl rfl (fr_put HK0.out 0 0 (.slice none 0 0) 0 0) Tryd.underlying31 rfl (by kernel_rfl)) rfl ⟨_, by rw [HN.out.2], by rw [HN.out.1]; exact fr_nil _ _, fr_below HB.out (Nat.le_refl _) _ _ _ _ _⟩
  case pos =>
    have HM := hide hmay
    obtain ⟨m1, m2, m3, m4⟩ := may_t.1 hmay
    obtain ⟨R, rfl⟩ : ∃ R : Nat, rows = R := ⟨rows.toNat, by omega⟩
    obtain ⟨C, rfl⟩ : ∃ C : Nat, cols = C := ⟨cols.toNat, by omega⟩
    have HN := hide (newF_ok hmay)
    obtain ⟨hs1, hs2⟩ := size_small (R := R) (C := C) (by omega) (by omega) (by omega) (by omega)
    obtain ⟨n, hn⟩ : ∃ n, R * C = n := ⟨_, rfl⟩
    rw [hn] at hs1 hs2 HN
    have hwr : IntKind.i64.wrap ((R : Int) * (C : Int)) = (n : Int) := by
      rw [show (R : Int) * (C : Int) = (n : Int) by rw [← hn]; push_cast; rfl]
      simp [IntKind.wrap_i64]; omega
    clear hmay hn
    obtain ⟨i0, hi, hz0, hz1, hz2⟩ := info_parts infoC
    go_enter Tryd.func10, Tryd.ntmps10
    go_wp2_with (first
      | (go_at_call 12; refine (may_bl _ _ _ HM.out _).mono ?_; rintro e w0 ⟨rfl, hb0⟩; have HK0 := hide (HK.out.below hb0); have HB := hide (HB0.out.trans (hb0.mono HB0.out.size)); obtain ⟨z0, z1, z2, z3, z4, zf⟩ := fr_reads HK0.out; have hz := HK0.out.lt; clear hb0)
      | (at_make; refine wpList_make_full _ rfl _ _ _ rfl (w.heap.size + 1) 39 i0 _ 6 Tryd.underlying29 hi hz0 hz1 _ _ _ _ n rfl rfl rfl rfl (by rw [hz2]; omega) (by unfold maxLen; omega) (by omega) ?_; intro w1 hown1 hgr; rw [info_z, made_zero, ← newTo_0] at hown1; obtain ⟨g, hg⟩ : ∃ g, w0.heap.size = g := ⟨_, rfl⟩; rw [hg] at hown1 ⊢; have hown := ownC_of (newTo_len (Nat.zero_le n)) (by rw [Nat.zero_add, List.nil_append]; exact hown1); have HB1 := hide (HB.out.grown hgr (by omega) (fun k e => by cases e)); have HK1 := hide (show Blk w1 w.heap.size 31 (frCells 0 0 (.slice none 0 0) 0 0) from (hgr.block _ HK0.out.lt (by simp)).trans HK0.out); have HOW := hide hown; have hgl := hown.inb; clear hown hown1 hgr)
      | fail)
    have HF2 := hide (Blk.new w1 31 (frCells R C (.slice (some ⟨g, 0, none⟩) n n) 0 0))
    have HB2 := hide (HB1.out.alloc HB1.out.size (.cells (frCells R C (.slice (some ⟨g, 0, none⟩) n n) 0 0).toArray 31))
    have HK2 := hide (HK1.out.alloc (.cells (frCells R C (.slice (some ⟨g, 0, none⟩) n n) 0 0).toArray 31))
    have HOW2 := hide (HOW.out.below ((Below.refl _ _).alloc (Nat.le_refl _) (.cells (frCells R C (.slice (some ⟨g, 0, none⟩) n n) 0 0).toArray 31)))
    have HBT2 := hide (HBT.out.below HB2.out)
    have hgw : ¬ g = w1.heap.size := by omega
    have hgw' : ¬ w1.heap.size = g := by omega
    have hgb : ¬ g = 0 := by omega
    have hgb' : ¬ 0 = g := by omega
    have hg0 : ¬ g = w.heap.size := by omega
    have hg0' : ¬ w.heap.size = g := by omega
    have hw10 : ¬ w1.heap.size = w.heap.size := by omega
    clear HB HB0 HB1 HK HK0 HK1 HOW HBT z0 z1 z2 z3 z4 zf
    go_loopw [23] (fun iv wr => ∃ i : Nat, iv = .int .i64 i ∧ i ≤ n ∧ Hid (OwnC wr (w.heap.size + 1) (.slice (some ⟨g, 0, none⟩) n n) (newTo n i)) ∧ Hid (Blk wr w.heap.size 31 (frCells 0 0 (.slice none 0 0) 0 0)) ∧ Hid (Blk wr w1.heap.size 31 (frCells R C (.slice (some ⟨g, 0, none⟩) n n) 0 0)) ∧ Hid (BTab wr) ∧ Hid (Below w.heap.size w wr)) (fun iv _ => n - (intOf iv).toNat)
    case atStart => exact ⟨0, rfl, by omega, HOW2, HK2, HF2, HBT2, HB2⟩
    case round =>
      clear HF2 HB2 HK2 HOW2 HBT2
      obtain ⟨i, rfl, hi, HOW, HK, HF, HBT, HB⟩ := hrel
      obtain ⟨f0, f1, f2, f3, f4, ff⟩ := fr_reads HF.out
      by_cases hlt2 : i < n
      · obtain ⟨t0, t1, t2, t3, t4, t5⟩ := HBT.out
        obtain ⟨X, hX⟩ : ∃ y, (newTo n i)[i]? = some y := ⟨_, List.getElem?_eq_getElem (by rw [newTo_len hi]; exact hlt2)⟩
        obtain ⟨x0, x1, x2, x3, x4, x5⟩ := HOW.out.cls.get hX
        rw [Nat.zero_add] at x0 x1 x2 x3 x4 x5
        have xf := fun i => HOW.out.frozen i
        clear hX
        go_wp2
        have hgr : wr.grownBy _ (some g) := grown6 wr g (i * 6) (i * 6 + 1) (i * 6 + 2) (i * 6 + 3) (i * 6 + 4) (i * 6 + 5) (.int .i32 32) (.int .i64 1) (.int .i64 0) (.bool false) (.bool false) (.bool false)
        go_roundw
        case rel => exact ⟨i + 1, by go_num, by omega, hide (by rw [← newTo_step hlt2]; exact own_set6 HOW.out (newTo_len hi) hlt2 blankC), hide (HK.out.grown hgr hg0'), hide (HF.out.grown hgr hgw'), hide (HBT.out.keep hgr hgb), hide (HB.out.grown hgr HB.out.size (fun k e => by cases e; omega))⟩
        case measure => simp [intOf]; omega
      · obtain rfl : i = n := by omega
        obtain ⟨z0, z1, z2, z3, z4, zf⟩ := fr_reads HK.out
        rw [newTo_all] at HOW
        go_wp2
        refine bodyPost_ret (results_cell_tmp rfl _ _ w.heap.size 31 (frCells R C (.slice (some ⟨g, 0, none⟩) i i) 0 0).toArray (0, 0) _ (.int .i64 0) rfl rfl (fr_put HK.out R C (.slice (some ⟨g, 0, none⟩) i i) 0 0) Tryd.underlying31 rfl (by kernel_rfl)) rfl ⟨_, by rw [HN.out.2], ?_, fr_below HB.out (Nat.le_refl _) _ _ _ _ _⟩
        rw [HN.out.1]
        exact (fr_own (by simp) (by unfold maxLen; omega) (fr_low HOW.out (Nat.lt_succ_self _) _ _ _ _ _)).mono (Nat.le_succ _)
theorem OwnC.formL {W : World} {B n : Nat} {v : Value} {L : List Cl} (h : OwnC W B v L) (hn : L.length = n) : ∃ A c, v = .slice A n c ∧ n ≤ c ∧ c ≤ maxLen := by
  subst hn; exact h.form2
/-- A call of a function of no arguments, as one step of a region that draws its order. -/
theorem step_fn0 {ops : Array Oper} {o : Oper} {a : Act} {W : World} {K : Act → World → Prop} {Q : Exit → Act → World → Prop} {E : Prop}
    (hgd : o.guard = none) (f : Nat) (fn : Func) (hf : Tryd.prog.funcs[f]? = some fn) (hnm : ¬ fn.name = "runtime.NumGoroutine") (hbd : ¬ fn.body = Option.none) (ty : Array TypeId) (hop : o.op = Op.call { callee := Callee.value (.func f), args := #[], argTypes := ty })
    (Post : Value → World → Prop) (hc : Calls Tryd.prog f #[] W fun e w' => ∃ v, e = .returned v ∧ Post v w')
    (hK : ∀ v w', Post v w' → K (a.put o.dst v) w') :
    if Region.wanted o (yielded ops a.tmps) = true then Oper.wp Tryd.prog o a W K Q else E := by
  have hw : Region.wanted o (yielded ops a.tmps) = true := by simp [Region.wanted, hgd]
  rw [if_pos hw]
  unfold Oper.wp
  have he : a.eval (Operand.func f) = Value.func (Fn.func f) #[] #[] := rfl
  simp [execOp, hop, resolve, invoke, he, Result.andThen, Deferred.ofValue, callFunc, hf, hnm, hbd]
  refine hc.mono ?_
  rintro e w' ⟨v, rfl, hp⟩
  exact hK v w' hp
/-- One cell is hung on to a slice of the call's own: as one step of a region that draws its order. -/
theorem step_appC {ops : Array Oper} {o : Oper} {a : Act} {W : World} {K : Act → World → Prop} {Q : Exit → Act → World → Prop} {X : Prop} (hgd : o.guard = none) (s x : Operand)
    (hop : o.op = Op.call { callee := Callee.builtin Builtin.append, args := #[s, x], argTypes := #[29, 29] })
    (B : Nat) (hB : B ≤ W.heap.size) (v : Value) (L : List Cl) (c : Cl) (b cp : Nat) (hs : a.eval s = v) (hx : a.eval x = .slice (some ⟨b, 0, none⟩) 1 cp) (hown : OwnC W B v L) (hb : Blk W b 39 (clCells c)) (hlen : L.length ≤ 20000)
    (hK : ∀ v' w', OwnC w' B v' (L ++ [c]) → Below B W w' → K (a.put o.dst v') w') :
    if Region.wanted o (yielded ops a.tmps) = true then Oper.wp Tryd.prog o a W K Q else X := by
  have hw : Region.wanted o (yielded ops a.tmps) = true := by simp [Region.wanted, hgd]
  rw [if_pos hw]
  obtain ⟨i0, hi, hz0, hz1, hz2⟩ := info_parts infoC
  obtain ⟨v', w', hrun, h1, h2, -⟩ := run_append_own (P := Tryd.prog) W B 29 o.type 39 i0 _ 6 32 Tryd.underlying29 hi hz0 hz1 hz2 (by rfl) (by decide) v L.length (flatC L) hown ⟨b, 0, none⟩ 1 cp (clCells c) (by rfl)
    (fun j u hu => by have := hb.cell (i := j) hu; rw [← this]; congr 1; unfold Addr.add; split <;> simp_all) (fun u hu => by simp only [clCells, List.mem_cons, List.not_mem_nil, or_false] at hu; rcases hu with rfl | rfl | rfl | rfl | rfl | rfl <;> rfl) (by unfold maxLen; omega) (by omega) hB
  unfold Oper.wp
  simp [execOp, hop, resolve, invoke, builtin, hs, hx, hrun, Result.andThen]
  refine hK v' w' ?_ ((Below.refl _ _).grown h2 hB (fun k e => (hown.lt k e).1))
  unfold OwnC
  rw [List.length_append, show flatC (L ++ [c]) = flatC L ++ clCells c by simp [flatC]]
  exact h1
end Go.Proofs.YtmpajkfbiocmiaaDoor
namespace Go.Proofs.YtmpajkfbiocmiaaDoor
open Go.RowKit

/-- The block holds cells of a screen. -/
def TyC (W : World) (b : Nat) : Prop := ∃ c fz, W.heap[b]? = some (.cells c 39 fz)
/-- All blocks are kept but the sheet's own and cells behind it. -/
structure KeepC (p : Nat) (W V : World) : Prop where
  os : V.os = W.os
  tape : V.tape = W.tape
  output : V.output = W.output
  size : W.heap.size ≤ V.heap.size
  block : ∀ b, b < W.heap.size → b ≠ p → (p < b → ¬ TyC W b) → V.heap[b]? = W.heap[b]?
theorem KeepC.of {p : Nat} {W V : World} (h : Below W.heap.size W V) : KeepC p W V := ⟨h.os, h.tape, h.output, h.size, fun b hb _ _ => h.block b hb⟩
theorem KeepC.refl (p : Nat) (W : World) : KeepC p W W := KeepC.of (Below.refl _ _)
theorem KeepC.trans {p : Nat} {A W V : World} (h : KeepC p A W) (h2 : KeepC p W V) : KeepC p A V :=
  ⟨h2.os.trans h.os, h2.tape.trans h.tape, h2.output.trans h.output, Nat.le_trans h.size h2.size, fun b hb hne hn => by
    have e := h.block b hb hne hn
    refine (h2.block b (by have := h.size; omega) hne (fun hlt ht => hn hlt ?_)).trans e
    obtain ⟨c, fz, ht⟩ := ht
    exact ⟨c, fz, e.symm.trans ht⟩⟩
theorem KeepC.below {p : Nat} {W V : World} (h : KeepC p W V) (hp : p ≤ W.heap.size) : Below p W V := ⟨h.os, h.tape, h.output, h.size, fun b hb => h.block b (by omega) (by omega) (fun hlt => absurd hlt (by omega))⟩
theorem KeepC.blk {p : Nat} {W V : World} {b : Nat} {t : TypeId} {cs : List Value} (h : KeepC p W V) (hb : Blk W b t cs) (hne : b ≠ p) (ht : t ≠ 39) : Blk V b t cs :=
  (h.block b hb.lt hne (fun _ hc => by
    obtain ⟨c, fz, hc⟩ := hc
    rw [show W.heap[b]? = _ from hb] at hc
    injection hc with hc
    injection hc with e1 e2 e3
    exact ht e2)).trans hb
theorem KeepC.low {p : Nat} {W V : World} {b o : Nat} {u : Value} (h : KeepC p W V) (hc : W.cell? ⟨b, o, none⟩ = some u) (hlt : b < p) : V.cell? ⟨b, o, none⟩ = some u := by
  have hb := World.block_lt_of_cell? _ _ hc
  exact (World.cell?_of_block (h.block b hb (by dsimp only at hb; omega) (fun hlt => absurd hlt (by omega)))).trans hc
theorem KeepC.le {p q : Nat} {W V : World} (h : KeepC q W V) (hq : W.heap.size ≤ q) (hp : p ≤ W.heap.size) : KeepC p W V :=
  ⟨h.os, h.tape, h.output, h.size, fun b hb _ _ => h.block b hb (by omega) (fun hlt => absurd hlt (by omega))⟩
/-- The sheet at block p: so many columns, these cells. -/
def Sh (W : World) (p C : Nat) (L : List Cl) : Prop := ∃ v, Blk W p 46 [.int .i64 C, v] ∧ OwnC W (p + 1) v L
theorem Sh.of {W V : World} {p C : Nat} {L : List Cl} (h : Sh W p C L) (hb : Below W.heap.size W V) : Sh V p C L := by
  obtain ⟨v, h1, h2⟩ := h
  exact ⟨v, h1.below hb, h2.below hb⟩
theorem Sh.drew {W : World} {p C : Nat} {L : List Cl} (h : Sh W p C L) : Sh W.drew p C L := by
  obtain ⟨v, h1, h2⟩ := h
  exact ⟨v, h1, h2⟩
theorem Sh.lt {W : World} {p C : Nat} {L : List Cl} (h : Sh W p C L) : p < W.heap.size := h.choose_spec.1.lt
/-- What lies in the sheet's two cells. -/
theorem Sh.reads {W : World} {p C : Nat} {L : List Cl} (h : Sh W p C L) : ∃ A n c, n = L.length ∧ n ≤ c ∧ c ≤ maxLen ∧ W.cell? ⟨p, 0, none⟩ = some (.int .i64 C) ∧ W.cell? ⟨p, 1, none⟩ = some (.slice A n c) ∧ (∀ i, W.frozen? ⟨p, i, none⟩ = false) ∧ Blk W p 46 [.int .i64 C, .slice A n c] ∧ OwnC W (p + 1) (.slice A n c) L := by
  obtain ⟨v, h1, h2⟩ := h
  obtain ⟨A, c, rfl, h3, h4⟩ := h2.form2
  exact ⟨A, L.length, c, rfl, h3, h4, h1.cell rfl, h1.cell rfl, fun i => h1.frozen i, h1, h2⟩
/-- A cell is appended, the slice is laid back. -/
theorem Sh.app {W V : World} {p C : Nat} {v v' : Value} {L L' : List Cl} (h1 : Blk W p 46 [.int .i64 C, v]) (h2 : OwnC W (p + 1) v L) (hown : OwnC V (p + 1) v' L') (hg : W.grownBy V v.ownBlock) :
    Sh (V.setCell ⟨p, 1, none⟩ v') p C L' ∧ KeepC p W (V.setCell ⟨p, 1, none⟩ v') := by
  have hb : ∀ b, b < W.heap.size → (p < b → ¬ TyC W b) → V.heap[b]? = W.heap[b]? := fun b hb hn => hg.block b hb (fun e => by
    rcases h2.2 with ⟨rfl, -⟩ | ⟨g, cap, cur, rfl, hge, hh, -⟩
    · cases e
    · injection e with e
      subst e
      exact hn (by omega) ⟨cur, _, hh⟩)
  have hp : V.heap[p]? = W.heap[p]? := hb p h1.lt (fun hlt => absurd hlt (by omega))
  have h1' : Blk V p 46 [.int .i64 C, v] := hp.trans h1
  have hs : (V.setCell ⟨p, 1, none⟩ v').heap.size = V.heap.size := by unfold World.setCell; simp
  refine ⟨⟨v', h1'.set 1 v', ?_⟩, hg.os, hg.tape, hg.output, by rw [hs]; exact hg.size, fun b hlt hne hn => ?_⟩
  · refine ⟨hown.1, ?_⟩
    rcases hown.2 with h0 | ⟨g, cap, cur, rfl, hge, hh, q⟩
    · exact .inl h0
    · exact .inr ⟨g, cap, cur, rfl, hge, (Below.heap_setCell _ _ _ _ (show g ≠ p by omega)).trans hh, q⟩
  · exact (Below.heap_setCell _ _ _ _ hne).trans (hb b hlt hn)
/-- Between the append and the store. -/
theorem Sh.mid {W V : World} {p C : Nat} {v : Value} {L : List Cl} (h1 : Blk W p 46 [.int .i64 C, v]) (h2 : OwnC W (p + 1) v L) (hg : W.grownBy V v.ownBlock) : Blk V p 46 [.int .i64 C, v] :=
  (hg.block p h1.lt (fun e => by have := (h2.lt p e.symm).1; omega)).trans h1
/-- Append of one cell, as a step of a region that draws its order. -/
theorem step_appY {ops : Array Oper} {o : Oper} {a : Act} {W : World} {K : Act → World → Prop} {Q : Exit → Act → World → Prop} {X : Prop} (hgd : o.guard = none) (s x : Operand)
    (hop : o.op = Op.call { callee := Callee.builtin Builtin.append, args := #[s, x], argTypes := #[29, 29] })
    (B : Nat) (hB : B ≤ W.heap.size) (v : Value) (L : List Cl) (c : Cl) (b cp : Nat) (hs : a.eval s = v) (hx : a.eval x = .slice (some ⟨b, 0, none⟩) 1 cp) (hown : OwnC W B v L) (hb : Blk W b 39 (clCells c)) (hlen : L.length ≤ 100000000)
    (hK : ∀ v' w', OwnC w' B v' (L ++ [c]) → W.grownBy w' v.ownBlock → K (a.put o.dst v') w') :
    if Region.wanted o (yielded ops a.tmps) = true then Oper.wp Tryd.prog o a W K Q else X := by
  have hw : Region.wanted o (yielded ops a.tmps) = true := by simp [Region.wanted, hgd]
  rw [if_pos hw]
  obtain ⟨i0, hi, hz0, hz1, hz2⟩ := info_parts infoC
  obtain ⟨v', w', hrun, h1, h2, -⟩ := run_append_own (P := Tryd.prog) W B 29 o.type 39 i0 _ 6 32 Tryd.underlying29 hi hz0 hz1 hz2 (by rfl) (by decide) v L.length (flatC L) hown ⟨b, 0, none⟩ 1 cp (clCells c) (by rfl)
    (fun j u hu => by have := hb.cell (i := j) hu; rw [← this]; congr 1; unfold Addr.add; split <;> simp_all) (fun u hu => by simp only [clCells, List.mem_cons, List.not_mem_nil, or_false] at hu; rcases hu with rfl | rfl | rfl | rfl | rfl | rfl <;> rfl) (by unfold maxLen; omega) (by omega) hB
  unfold Oper.wp
  simp [execOp, hop, resolve, invoke, builtin, hs, hx, hrun, Result.andThen]
  refine hK v' w' ?_ h2
  unfold OwnC
  rw [List.length_append, show flatC (L ++ [c]) = flatC L ++ clCells c by simp [flatC]]
  exact h1
theorem below_eqY {A W : World} (h : A = W) : Below A.heap.size A W := h ▸ Below.refl _ _
/-- The layout's own blank, in its block. -/
def LBT (W : World) : Prop := ∀ i u, (clCells blankC)[i]? = some u → W.cell? ⟨1, i, none⟩ = some u
theorem LBT.reads {W : World} (h : LBT W) : W.cell? ⟨1, 0, none⟩ = some (.int .i32 32) ∧ W.cell? ⟨1, 1, none⟩ = some (.int .i64 1) ∧ W.cell? ⟨1, 2, none⟩ = some (.int .i64 0) ∧ W.cell? ⟨1, 3, none⟩ = some (.bool false) ∧ W.cell? ⟨1, 4, none⟩ = some (.bool false) ∧ W.cell? ⟨1, 5, none⟩ = some (.bool false) :=
  ⟨h 0 _ rfl, h 1 _ rfl, h 2 _ rfl, h 3 _ rfl, h 4 _ rfl, h 5 _ rfl⟩
theorem LBT.below {w W : World} (h : LBT w) (hb : Below w.heap.size w W) : LBT W := fun i u hu => kcG hb (h i u hu)
theorem LBT.keep {w W : World} {p : Nat} (h : LBT w) (hb : KeepC p w W) (hp : 1 < p) : LBT W := fun i u hu => hb.low (h i u hu) hp
theorem WTabs.keep {w W : World} {p : Nat} (h : WTabs w) (hb : KeepC p w W) (h1 : 2 < p) (h2 : 3 < p) : WTabs W := ⟨h.1.keep fun o v hc => hb.low hc h1, h.2.keep fun o v hc => hb.low hc h2⟩
end Go.Proofs.YtmpajkfbiocmiaaDoor
