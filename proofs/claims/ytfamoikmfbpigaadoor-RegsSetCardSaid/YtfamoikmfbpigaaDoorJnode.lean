/- A node that is shown is read. Plain. -/
import Derived.Test.YtfamoikmfbpigaaDoorJset
import Derived.Test.YtfamoikmfbpigaaDoorFshowp
import Derived.Test.YtfamoikmfbpigaaDoorFref
namespace Go.Proofs.YtfamoikmfbpigaaDoor
open Go.RowKit

/-- Signs behind one, over lists. -/
def sgL : Nd → List UInt8 → Nd × List UInt8
  | n, [] => (n, [])
  | n, c :: t => if 0 < sgn c.toNat then sgL (.mk (sgn c.toNat) noSet [n]) t else (n, c :: t)
theorem signs_list : ∀ (t : List UInt8) (n : Nd) (f : Nat), t.length ≤ f → signsE f n (bl t) = ((sgL n t).1, bl (sgL n t).2)
  | [], n, 0, _ => rfl
  | [], n, f + 1, _ => by
    rw [signsE, if_neg (by rw [nextB_nil]; decide)]; rfl
  | c :: t, n, 0, h => absurd h (by simp)
  | c :: t, n, f + 1, h => by
    rw [signsE, nextB_cons, sgL]
    by_cases hs : 0 < sgn c.toNat
    · rw [if_pos hs, if_pos hs, bl_tail, signs_list t _ f (by simpa using h)]
    · rw [if_neg hs, if_neg hs]
def PieceOk (R : ByteArray → Option (Nd × ByteArray)) (n : Nd) (txt : List UInt8) : Prop := ∀ r, ∃ a t, atomE R (bl (txt ++ r)) = some (a, bl t) ∧ sgL a t = sgL n r
def HeadOk (txt : List UInt8) : Prop := ∃ c t, txt = c :: t ∧ headOk c
/-- What stands behind a row. -/
def Stop (r : List UInt8) : Prop := r = [] ∨ (∃ t, r = 41 :: t) ∨ ∃ t, r = 124 :: t
/-- What stands behind a piece. -/
def NoSign (r : List UInt8) : Prop := ∀ n, sgL n r = (n, r)
theorem Stop.no {r : List UInt8} (h : Stop r) : NoSign r := by
  intro n
  rcases h with rfl | ⟨t, rfl⟩ | ⟨t, rfl⟩
  · rfl
  · rw [sgL, if_neg (by decide)]
  · rw [sgL, if_neg (by decide)]
theorem HeadOk.no {txt : List UInt8} (h : HeadOk txt) (r : List UInt8) : NoSign (txt ++ r) := by
  intro n
  obtain ⟨c, t, rfl, h1, h2, h3, h4, h5, h6⟩ := h
  rw [List.cons_append, sgL, if_neg]
  unfold sgn
  rw [if_neg h4, if_neg h5, if_neg h6]
  omega
theorem PieceOk.piece {R : ByteArray → Option (Nd × ByteArray)} {n : Nd} {txt r : List UInt8} (h : PieceOk R n txt) (hr : NoSign r) : pieceE R (bl (txt ++ r)) = some (n, bl r) := by
  obtain ⟨a, t, h1, h2⟩ := h r
  unfold pieceE
  rw [h1]
  dsimp only
  rw [signs_list t a _ (by rw [bl_size]; exact Nat.le_refl _), h2, hr n]
theorem PieceOk.sign {R : ByteArray → Option (Nd × ByteArray)} {n : Nd} {txt : List UInt8} (h : PieceOk R n txt) (c : UInt8) (k : Nat) (hk : sgn c.toNat = k) (h0 : 0 < k) : PieceOk R (.mk (k : Int) noSet [n]) (txt ++ [c]) := by
  intro r
  obtain ⟨a, t, h1, h2⟩ := h (c :: r)
  refine ⟨a, t, by rw [List.append_assoc]; exact h1, ?_⟩
  rw [h2, sgL, if_pos (by omega), hk]
theorem PieceOk.wrap {R : ByteArray → Option (Nd × ByteArray)} {n : Nd} {txt : List UInt8} (h : ∀ t, R (bl (txt ++ 41 :: t)) = some (n, bl (41 :: t))) : PieceOk R n (40 :: (txt ++ [41])) := by
  intro r
  refine ⟨n, r, ?_, rfl⟩
  unfold atomE
  rw [show 40 :: (txt ++ [41]) ++ r = 40 :: (txt ++ 41 :: r) by simp, tk_cons]
  dsimp only
  rw [if_pos (by decide), h r]
  dsimp only
  rw [if_pos (isB_yes (by decide)), bl_tail]
mutual
def wN : Nd → Prop
  | .mk _ S L => W64 S ∧ wL L
def wL : List Nd → Prop
  | [] => True
  | x :: l => wN x ∧ wL l
end
theorem wL_mem : ∀ {L : List Nd} {x : Nd}, wL L → x ∈ L → wN x
  | y :: l, x, h, hx => by
    rw [wL] at h
    rcases List.mem_cons.1 hx with rfl | hx
    · exact h.1
    · exact wL_mem h.2 hx
theorem deepL_mem : ∀ {L : List Nd} {x : Nd}, x ∈ L → deepE x ≤ deepL L
  | y :: l, x, hx => by
    rw [deepL]
    rcases List.mem_cons.1 hx with rfl | hx
    · omega
    · have := deepL_mem hx; omega
theorem szL_mem : ∀ {L : List Nd} {x : Nd}, x ∈ L → szN x ≤ szL L
  | y :: l, x, hx => by
    rw [szL]
    rcases List.mem_cons.1 hx with rfl | hx
    · omega
    · have := szL_mem hx; omega
theorem rmayL_mem {L : List Nd} {x : Nd} (h : rmayL L = true) (hx : x ∈ L) : rmayE x = true := by
  rw [rmayL_all, List.all_eq_true] at h
  exact h x hx
theorem shape_ways {k : Int} {S : List Nat} {L : List Nd} (h : shapeB k S L.length = true) : (k = 0 ∧ L = [] ∧ S = noSet) ∨ (k = 1 ∧ L = []) ∨ ((k = 2 ∨ k = 3) ∧ 2 ≤ L.length ∧ S = noSet) ∨ ((k = 4 ∨ k = 5 ∨ k = 6) ∧ (∃ x, L = [x]) ∧ S = noSet) := by
  unfold shapeB at h
  rw [Bool.and_eq_true, Bool.or_eq_true, beq_iff_eq, beq_iff_eq] at h
  obtain ⟨h1, h2⟩ := h
  by_cases k01 : k = 0 ∨ k = 1
  · rw [if_pos k01, beq_iff_eq, List.length_eq_zero_iff] at h1
    rcases k01 with rfl | rfl
    · exact .inl ⟨rfl, h1, h2.resolve_left (by omega)⟩
    · exact .inr (.inl ⟨rfl, h1⟩)
  · rw [if_neg k01] at h1
    have hS : S = noSet := h2.resolve_left (by omega)
    by_cases k23 : k = 2 ∨ k = 3
    · rw [if_pos k23, decide_eq_true_eq] at h1
      exact .inr (.inr (.inl ⟨k23, h1, hS⟩))
    · rw [if_neg k23] at h1
      by_cases k46 : 4 ≤ k ∧ k ≤ 6
      · rw [if_pos k46, beq_iff_eq, List.length_eq_one_iff] at h1
        exact .inr (.inr (.inr ⟨by omega, h1, hS⟩))
      · rw [if_neg k46] at h1; cases h1
theorem spans_head {S : List Nat} : HeadOk (spansE S) := by
  have hok : RunsOk (scR S 0) := scanR_ok S _ _
  unfold spansE
  by_cases h0 : manyR (scR S 0) = 0
  · rw [if_pos h0]; exact ⟨91, _, rfl, by decide, by decide, by decide, by decide, by decide, by decide⟩
  · rw [if_neg h0]
    by_cases h1 : manyR (scR S 0) = 1
    · rw [if_pos h1]
      obtain ⟨b, hb, e⟩ := many1 hok h1
      obtain ⟨c, t, e1, h, -⟩ := shown_head b hb
      rw [e]
      exact ⟨c, t, by simp [spanT, e1], h⟩
    · rw [if_neg h1]; exact ⟨91, _, rfl, by decide, by decide, by decide, by decide, by decide, by decide⟩
theorem par_head (t : List UInt8) : HeadOk (40 :: t) := ⟨40, t, rfl, by decide, by decide, by decide, by decide, by decide, by decide⟩
theorem HeadOk.more {t : List UInt8} (h : HeadOk t) (r : List UInt8) : HeadOk (t ++ r) := by
  obtain ⟨c, u, rfl, h⟩ := h
  exact ⟨c, u ++ r, rfl, h⟩
theorem HeadOk.pos {t : List UInt8} (h : HeadOk t) : 1 ≤ t.length := by
  obtain ⟨c, u, rfl, h⟩ := h
  simp
/-- What a rule's reader answers of what is shown. -/
def ReadsR (R : ByteArray → Option (Nd × ByteArray)) (f : Nat) : Prop := (∀ t, R (bl (41 :: t)) = some (.mk 0 noSet [], bl (41 :: t))) ∧ ∀ x, deepE x ≤ f → rmayE x = true → wN x → ∀ t, R (bl (showE x ++ 41 :: t)) = some (x, bl (41 :: t))
theorem no_wrap {k : Int} {x : Nd} (h : ¬ wrapB k x = true) : kdN x ≠ 3 ∧ (k ≠ 3 → kdN x ≠ 2) := by
  unfold wrapB at h
  refine ⟨fun e => h (by rw [e]; rfl), fun hk e => h (by rw [e]; simp [hk])⟩
theorem piece_ok {R : ByteArray → Option (Nd × ByteArray)} {f : Nat} (HR : ReadsR R f) : ∀ (g : Nat) (n : Nd), szN n ≤ g → deepE n ≤ f + 1 → rmayE n = true → wN n → kdN n ≠ 2 → kdN n ≠ 3 → PieceOk R n (showE n) ∧ HeadOk (showE n)
  | 0, n, hg, _, _, _, _, _ => by cases n; rw [szN] at hg; omega
  | g + 1, .mk k S L, hg, hd, hm, hw, h2, h3 => by
    rw [rmayE, Bool.and_eq_true] at hm
    rw [wN] at hw
    rw [szN] at hg
    rw [deepE] at hd
    have h2' : k ≠ 2 := h2
    have h3' : k ≠ 3 := h3
    rcases shape_ways hm.1 with ⟨rfl, rfl, rfl⟩ | ⟨rfl, rfl⟩ | ⟨h, _⟩ | ⟨hk, ⟨x, rfl⟩, rfl⟩
    · rw [show showE (.mk 0 noSet []) = [40, 41] from by simp [showE]]
      refine ⟨fun r => ⟨_, r, ?_, rfl⟩, par_head _⟩
      unfold atomE
      rw [show [40, 41] ++ r = 40 :: 41 :: r from rfl, tk_cons]
      dsimp only
      rw [if_pos (by decide), HR.1 r]
      dsimp only
      rw [if_pos (isB_yes (by decide)), bl_tail]
    · rw [show showE (.mk 1 S []) = spansE S from by simp [showE]]
      exact ⟨fun r => ⟨_, r, atom_set R hw.1 r, rfl⟩, spans_head⟩
    · omega
    · have hx : PieceOk R x (kidE k x (showE x)) ∧ HeadOk (kidE k x (showE x)) := by
        have hm2 := rmayL_mem hm.2 (x := x) (by simp)
        have hw2 := wL_mem hw.2 (x := x) (by simp)
        have hd2 := deepL_mem (L := [x]) (x := x) (by simp)
        unfold kidE
        by_cases hwr : wrapB k x = true
        · rw [if_pos hwr]
          exact ⟨PieceOk.wrap (HR.2 x (by omega) hm2 hw2), par_head _⟩
        · rw [if_neg hwr]
          obtain ⟨n3, n2⟩ := no_wrap hwr
          exact piece_ok HR g x (by rw [szL] at hg; omega) (by omega) hm2 hw2 (n2 h3') n3
      rcases hk with rfl | rfl | rfl
      · rw [show showE (.mk 4 noSet [x]) = kidE 4 x (showE x) ++ [42] from by simp [showE, kidsE]]
        exact ⟨hx.1.sign 42 4 (by decide) (by omega), hx.2.more _⟩
      · rw [show showE (.mk 5 noSet [x]) = kidE 5 x (showE x) ++ [43] from by simp [showE, kidsE]]
        exact ⟨hx.1.sign 43 5 (by decide) (by omega), hx.2.more _⟩
      · rw [show showE (.mk 6 noSet [x]) = kidE 6 x (showE x) ++ [63] from by simp [showE, kidsE]]
        exact ⟨hx.1.sign 63 6 (by decide) (by omega), hx.2.more _⟩
/-- A kid's text, as a piece. -/
theorem kid_ok {R : ByteArray → Option (Nd × ByteArray)} {f : Nat} (HR : ReadsR R f) (k : Int) (hk : k ≠ 3) (x : Nd) (hd : deepE x ≤ f) (hm : rmayE x = true) (hw : wN x) : PieceOk R x (kidE k x (showE x)) ∧ HeadOk (kidE k x (showE x)) := by
  unfold kidE
  by_cases hwr : wrapB k x = true
  · rw [if_pos hwr]
    exact ⟨PieceOk.wrap (HR.2 x hd hm hw), par_head _⟩
  · rw [if_neg hwr]
    obtain ⟨n3, n2⟩ := no_wrap hwr
    exact piece_ok HR _ x (Nat.le_refl _) (by omega) hm hw (n2 hk) n3
def RowOk (R : ByteArray → Option (Nd × ByteArray)) (n : Nd) (txt : List UInt8) : Prop := ∀ r, Stop r → rowE R (bl (txt ++ r)) = some (n, bl r)
theorem stop_cond {r : List UInt8} (h : Stop r) : (bl r).size = 0 ∨ nextB (bl r) = 124 ∨ nextB (bl r) = 41 := by
  rcases h with rfl | ⟨t, rfl⟩ | ⟨t, rfl⟩
  · exact .inl rfl
  · exact .inr (.inr (by rw [nextB_cons]; rfl))
  · exact .inr (.inl (by rw [nextB_cons]; rfl))
theorem head_cond {txt : List UInt8} (h : HeadOk txt) (r : List UInt8) : ¬ ((bl (txt ++ r)).size = 0 ∨ nextB (bl (txt ++ r)) = 124 ∨ nextB (bl (txt ++ r)) = 41) := by
  obtain ⟨c, t, rfl, h1, h2, h3, -⟩ := h
  rw [List.cons_append, nextB_cons, bl_size]
  simp
  exact ⟨h3, h1⟩
theorem row_run {R : ByteArray → Option (Nd × ByteArray)} {r : List UInt8} (hr : Stop r) : ∀ (L : List (Nd × List UInt8)) (l : List Nd) (f : Nat), (∀ p ∈ L, PieceOk R p.1 p.2 ∧ HeadOk p.2) → L.length < f → rowL R f l (bl ((L.map (·.2)).flatten ++ r)) = some (l ++ L.map (·.1), bl r)
  | [], l, f, _, hf => by
    obtain ⟨f, rfl⟩ : ∃ g, f = g + 1 := ⟨f - 1, by simp at hf; omega⟩
    show rowL R (f + 1) l (bl r) = _
    rw [rowL, if_pos (stop_cond hr)]; simp
  | p :: L, l, f, h, hf => by
    obtain ⟨f, rfl⟩ : ∃ g, f = g + 1 := ⟨f - 1, by simp at hf; omega⟩
    obtain ⟨hp, hh⟩ := h p (by simp)
    have ht : ((p :: L).map (·.2)).flatten ++ r = p.2 ++ ((L.map (·.2)).flatten ++ r) := by simp
    have hn : NoSign ((L.map (·.2)).flatten ++ r) := by
      cases L with
      | nil => exact hr.no
      | cons q L =>
        have := (h q (by simp)).2.no ((L.map (·.2)).flatten ++ r)
        rwa [show ((q :: L).map (·.2)).flatten ++ r = q.2 ++ ((L.map (·.2)).flatten ++ r) by simp]
    rw [rowL, ht, if_neg (head_cond hh _), hp.piece hn]
    dsimp only
    rw [row_run hr L (l ++ [p.1]) f (fun q hq => h q (by simp [hq])) (by simp at hf; omega)]
    simp
theorem flat_ge : ∀ L : List (Nd × List UInt8), (∀ p ∈ L, HeadOk p.2) → L.length ≤ ((L.map (·.2)).flatten).length
  | [], _ => by simp
  | p :: L, h => by
    have h1 := (h p (by simp)).pos
    have h2 := flat_ge L (fun q hq => h q (by simp [hq]))
    rw [List.map_cons, List.flatten_cons, List.length_append, List.length_cons]; omega
theorem row_one {R : ByteArray → Option (Nd × ByteArray)} {n : Nd} {txt : List UInt8} (h : PieceOk R n txt) (hh : HeadOk txt) : RowOk R n txt := by
  intro r hr
  unfold rowE
  have := row_run (R := R) hr [(n, txt)] [] ((bl (txt ++ r)).size + 1) (fun p hp => by simp at hp; subst hp; exact ⟨h, hh⟩) (by have := hh.pos; rw [bl_size, List.length_append]; simp; omega)
  rw [show ([(n, txt)].map (·.2)).flatten ++ r = txt ++ r by simp] at this
  rw [this]; rfl
theorem row_cat {R : ByteArray → Option (Nd × ByteArray)} {L : List Nd} {g : Nd → List UInt8} (h2 : 2 ≤ L.length) (h : ∀ x ∈ L, PieceOk R x (g x) ∧ HeadOk (g x)) : RowOk R (.mk 2 noSet L) (L.map g).flatten := by
  intro r hr
  unfold rowE
  have hp : ∀ p ∈ L.map (fun x => (x, g x)), PieceOk R p.1 p.2 ∧ HeadOk p.2 := fun p hp => by
    obtain ⟨x, hx, rfl⟩ := List.mem_map.1 hp
    exact h x hx
  have hl := flat_ge (L.map (fun x => (x, g x))) (fun p q => (hp p q).2)
  have := row_run (R := R) hr (L.map (fun x => (x, g x))) [] ((bl ((L.map g).flatten ++ r)).size + 1) hp (by
    rw [List.map_map] at hl
    rw [bl_size, List.length_append]
    have e : ((fun p : Nd × List UInt8 => p.2) ∘ fun x => (x, g x)) = g := rfl
    rw [e] at hl
    omega)
  rw [List.map_map, List.map_map, show ((fun p : Nd × List UInt8 => p.2) ∘ fun x => (x, g x)) = g from rfl, show ((fun p : Nd × List UInt8 => p.1) ∘ fun x => (x, g x)) = id from rfl, List.map_id, List.nil_append] at this
  rw [this]
  match L, h2 with
  | x :: y :: l, _ => rfl
theorem row_ok {R : ByteArray → Option (Nd × ByteArray)} {f : Nat} (HR : ReadsR R f) : ∀ (n : Nd), deepE n ≤ f + 1 → rmayE n = true → wN n → kdN n ≠ 3 → RowOk R n (showE n) ∧ HeadOk (showE n)
  | .mk k S L, hd, hm, hw, h3 => by
    by_cases hk : k = 2
    · subst hk
      rw [rmayE, Bool.and_eq_true] at hm
      rw [wN] at hw
      rw [deepE] at hd
      rcases shape_ways hm.1 with ⟨h, -⟩ | ⟨h, -⟩ | ⟨-, h2, rfl⟩ | ⟨h, -⟩
      · omega
      · omega
      · rw [show showE (.mk 2 noSet L) = (kidsE 2 L).flatten from by simp [showE], kidsE_map]
        have hall : ∀ x ∈ L, PieceOk R x (kidE 2 x (showE x)) ∧ HeadOk (kidE 2 x (showE x)) := fun x hx => kid_ok HR 2 (by omega) x (by have := deepL_mem hx; omega) (rmayL_mem hm.2 hx) (wL_mem hw.2 hx)
        refine ⟨row_cat h2 hall, ?_⟩
        match L, h2 with
        | x :: y :: l, _ => rw [List.map_cons, List.flatten_cons]; exact (hall x (by simp)).2.more _
      · omega
    · obtain ⟨h1, h2⟩ := piece_ok HR _ (.mk k S L) (Nat.le_refl _) hd hm hw hk h3
      exact ⟨row_one h1 h2, h2⟩
/-- A kid's text, as a row. -/
theorem altkid_ok {R : ByteArray → Option (Nd × ByteArray)} {f : Nat} (HR : ReadsR R f) (x : Nd) (hd : deepE x ≤ f) (hm : rmayE x = true) (hw : wN x) : RowOk R x (kidE 3 x (showE x)) ∧ HeadOk (kidE 3 x (showE x)) := by
  unfold kidE
  by_cases hwr : wrapB 3 x = true
  · rw [if_pos hwr]
    exact ⟨row_one (PieceOk.wrap (HR.2 x hd hm hw)) (par_head _), par_head _⟩
  · rw [if_neg hwr]
    exact row_ok HR x (by omega) hm hw (no_wrap hwr).1
/-- Where a rule ends. -/
def End0 (r : List UInt8) : Prop := r = [] ∨ ∃ t, r = 41 :: t
theorem End0.stop {r : List UInt8} (h : End0 r) : Stop r := h.elim .inl fun h => .inr (.inl h)
theorem End0.no {r : List UInt8} (h : End0 r) : isB (bl r) 124 = false := by
  rcases h with rfl | ⟨t, rfl⟩
  · rfl
  · exact isB_no (by decide)
theorem rows_run {R : ByteArray → Option (Nd × ByteArray)} {r : List UInt8} (hr : End0 r) : ∀ (L : List (Nd × List UInt8)) (l : List Nd) (f : Nat), (∀ p ∈ L, RowOk R p.1 p.2) → L.length < f → rowsL R f l (bl ((L.map fun p => 124 :: p.2).flatten ++ r)) = some (l ++ L.map (·.1), bl r)
  | [], l, f, _, hf => by
    obtain ⟨f, rfl⟩ : ∃ g, f = g + 1 := ⟨f - 1, by simp at hf; omega⟩
    show rowsL R (f + 1) l (bl r) = _
    rw [rowsL, if_neg (by rw [hr.no]; decide)]; simp
  | p :: L, l, f, h, hf => by
    obtain ⟨f, rfl⟩ : ∃ g, f = g + 1 := ⟨f - 1, by simp at hf; omega⟩
    have hp := h p (by simp)
    have ht : ((p :: L).map fun p => 124 :: p.2).flatten ++ r = 124 :: (p.2 ++ ((L.map fun p => 124 :: p.2).flatten ++ r)) := by simp
    have hn : Stop ((L.map fun p => 124 :: p.2).flatten ++ r) := by
      cases L with
      | nil => exact hr.stop
      | cons q L => exact .inr (.inr ⟨_, by simp; rfl⟩)
    rw [rowsL, ht, if_pos (isB_yes (by decide)), bl_tail, hp _ hn]
    dsimp only
    rw [rows_run hr L (l ++ [p.1]) f (fun q hq => h q (by simp [hq])) (by simp at hf; omega)]
    simp
theorem rows_one {R : ByteArray → Option (Nd × ByteArray)} {n : Nd} {txt : List UInt8} (h : RowOk R n txt) {r : List UInt8} (hr : End0 r) : rowsE1 R (bl (txt ++ r)) = some (n, bl r) := by
  unfold rowsE1
  rw [h r hr.stop]
  dsimp only
  rw [rowsL, if_neg (by rw [hr.no]; decide)]; rfl
theorem join_bars (t : List UInt8) : ∀ ts : List (List UInt8), Go.Lib.join (t :: ts) [124] = t ++ (ts.map fun u => 124 :: u).flatten := by
  intro ts
  rw [Go.Lib.join_cons]
  congr 1
theorem rows_alt {R : ByteArray → Option (Nd × ByteArray)} {L : List Nd} {g : Nd → List UInt8} (h2 : 2 ≤ L.length) (h : ∀ x ∈ L, RowOk R x (g x)) {r : List UInt8} (hr : End0 r) : rowsE1 R (bl (Go.Lib.join (L.map g) [124] ++ r)) = some (.mk 3 noSet L, bl r) := by
  match L, h2 with
  | x :: y :: l, _ =>
    have e : Go.Lib.join ((x :: y :: l).map g) [124] ++ r = g x ++ ((((y :: l).map fun x => (x, g x)).map fun p => 124 :: p.2).flatten ++ r) := by
      rw [List.map_cons, join_bars, List.append_assoc, List.map_map, List.map_map]; rfl
    unfold rowsE1
    rw [e, h x (by simp) _ (.inr (.inr ⟨_, by simp; rfl⟩))]
    dsimp only
    rw [rows_run hr ((y :: l).map fun x => (x, g x)) [x] _ (fun p hp => by obtain ⟨z, hz, rfl⟩ := List.mem_map.1 hp; exact h z (List.mem_cons_of_mem _ hz)) (by
      have key : ∀ M : List (Nd × List UInt8), M.length ≤ ((M.map fun p => 124 :: p.2).flatten).length := fun M => by
        induction M with
        | nil => simp
        | cons p M ih => rw [List.map_cons, List.flatten_cons, List.length_append, List.length_cons, List.length_cons]; omega
      have := key ((y :: l).map fun x => (x, g x))
      rw [bl_size, List.length_append]; omega)]
    dsimp only
    rw [List.map_map]
    have : ((fun p : Nd × List UInt8 => p.1) ∘ fun x => (x, g x)) = id := rfl
    rw [this, List.map_id]; rfl
theorem rows_empty {R : ByteArray → Option (Nd × ByteArray)} (r : List UInt8) (hr : End0 r) : rowsE1 R (bl r) = some (.mk 0 noSet [], bl r) := by
  have : RowOk R (.mk 0 noSet []) [] := fun r hr => by
    unfold rowE
    rw [List.nil_append, rowL, if_pos (stop_cond hr)]; rfl
  exact rows_one this hr
/-- A node, as it is shown, read. -/
theorem read_node : ∀ (f : Nat) (n : Nd), deepE n ≤ f → rmayE n = true → wN n → ∀ r, End0 r → rowsE (f + 1) (bl (showE n ++ r)) = some (n, bl r)
  | 0, n, hd, _, _, _, _ => by cases n; rw [deepE] at hd; omega
  | f + 1, .mk k S L, hd, hm, hw, r, hr => by
    have HR : ReadsR (rowsE (f + 1)) f := ⟨fun t => by rw [rowsE]; exact rows_empty _ (.inr ⟨t, rfl⟩), fun x h1 h2 h3 t => read_node f x h1 h2 h3 _ (.inr ⟨t, rfl⟩)⟩
    rw [rowsE]
    by_cases hk : k = 3
    · subst hk
      rw [rmayE, Bool.and_eq_true] at hm
      rw [wN] at hw
      rw [deepE] at hd
      rcases shape_ways hm.1 with ⟨h, -⟩ | ⟨h, -⟩ | ⟨-, h2, rfl⟩ | ⟨h, -⟩
      · omega
      · omega
      · rw [show showE (.mk 3 noSet L) = Go.Lib.join (kidsE 3 L) [124] from by simp [showE], kidsE_map]
        exact rows_alt h2 (fun x hx => (altkid_ok HR x (by have := deepL_mem hx; omega) (rmayL_mem hm.2 hx) (wL_mem hw.2 hx)).1) hr
      · omega
    · exact rows_one (row_ok HR (.mk k S L) hd hm hw hk).1 hr
end Go.Proofs.YtfamoikmfbpigaaDoor
