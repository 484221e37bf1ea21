/- Where a screen's cells lie. Contracts of the small functions of grids and of its reference: may, style, Blank. Plain: a rune put into a row of a screen. No program in sight. Two cells of a screen, compared by the program. Contract of grids.row. -/
import Derived.Test.YtmemdhmjhckmaaaDoorZ1
import Derived.Test.YtmemdhmjhckmaaaDoorZ2
import Derived.Laws.OwnMore
import Derived.OwnWalk
import Derived.Maps.AppendAt
import Derived.Deep.RegionHeld3
import Derived.Deep.DeepFit
import Derived.Laws.StructEq
import Derived.KernelRfl
namespace Go.Proofs.YtmemdhmjhckmaaaDoor
open Go.RowKit

def clCells (c : Cl) : List Value := [.int .i32 c.r, .int .i64 c.w, .int .i64 c.fg, .bool c.bo, .bool c.un, .bool c.iv]
def clV (c : Cl) : Value := .agg #[.int .i32 c.r, .int .i64 c.w, .int .i64 c.fg, .bool c.bo, .bool c.un, .bool c.iv]
def stV (c : Cl) : Value := .agg #[.int .i64 c.fg, .bool c.bo, .bool c.un, .bool c.iv]
def flatC (L : List Cl) : List Value := L.flatMap clCells
theorem flatC_len (L : List Cl) : (flatC L).length = L.length * 6 := by
  unfold flatC
  induction L with
  | nil => rfl
  | cons a l ih => simp only [List.flatMap_cons, List.length_append, clCells, List.length_cons, List.length_nil] at ih ⊢; omega
theorem flatC_app (L M : List Cl) : flatC (L ++ M) = flatC L ++ flatC M := by simp [flatC]
theorem flatC_at (L : List Cl) (j : Nat) (c : Cl) (h : L[j]? = some c) (i : Nat) (hi : i < 6) : (flatC L)[j * 6 + i]? = (clCells c)[i]? := by
  induction L generalizing j with
  | nil => simp at h
  | cons a l ih =>
    unfold flatC at ih ⊢
    rw [List.flatMap_cons]
    cases j with
    | zero =>
      obtain rfl : a = c := by simpa using h
      rw [List.getElem?_append_left (by simp [clCells]; omega), Nat.zero_mul, Nat.zero_add]
    | succ j =>
      rw [List.getElem?_append_right (by simp [clCells]; omega), show (j + 1) * 6 + i - (clCells a).length = j * 6 + i by simp [clCells]; omega]
      exact ih j (by simpa using h)
theorem flatC_set (L : List Cl) (j : Nat) (c : Cl) (h : j < L.length) : ((((((flatC L).set (j * 6) (.int .i32 c.r)).set (j * 6 + 1) (.int .i64 c.w)).set (j * 6 + 2) (.int .i64 c.fg)).set (j * 6 + 3) (.bool c.bo)).set (j * 6 + 4) (.bool c.un)).set (j * 6 + 5) (.bool c.iv) = flatC (L.set j c) := by
  induction L generalizing j with
  | nil => simp at h
  | cons a l ih =>
    cases j with
    | zero =>
      simp only [flatC, List.flatMap_cons, clCells, List.set_cons_zero]
      rfl
    | succ j =>
      have ih := ih j (by simpa using h)
      simp only [flatC, List.flatMap_cons, List.set_cons_succ] at ih ⊢
      rw [← ih]
      have e : ∀ (x : List Value) (q : Nat) (u : Value), (clCells a ++ x).set ((j + 1) * 6 + q) u = clCells a ++ x.set (j * 6 + q) u := by
        intro x q u
        rw [List.set_append_right _ _ (by simp [clCells]; omega), show (j + 1) * 6 + q - (clCells a).length = j * 6 + q by simp [clCells]; omega]
      have e0 := e (l.flatMap clCells) 0 (.int .i32 c.r)
      simp only [Nat.add_zero] at e0
      rw [e0, e, e, e, e, e]
/-- A slice that reads as these cells. -/
def ClsAt (W : World) (A : Option Addr) (L : List Cl) : Prop := RowOf W 6 clCells A L
theorem ClsAt.at {W : World} {A : Option Addr} {L : List Cl} (h : ClsAt W A L) {j : Nat} {c : Cl} (hj : L[j]? = some c) :
    ∃ b o, A = some ⟨b, o, none⟩ ∧ b < W.heap.size ∧ W.cell? ⟨b, o + j * 6, none⟩ = some (.int .i32 c.r) ∧ W.cell? ⟨b, o + j * 6 + 1, none⟩ = some (.int .i64 c.w) ∧ W.cell? ⟨b, o + j * 6 + 2, none⟩ = some (.int .i64 c.fg) ∧ W.cell? ⟨b, o + j * 6 + 3, none⟩ = some (.bool c.bo) ∧ W.cell? ⟨b, o + j * 6 + 4, none⟩ = some (.bool c.un) ∧ W.cell? ⟨b, o + j * 6 + 5, none⟩ = some (.bool c.iv) := by
  obtain ⟨b, o, e, hlt, hc⟩ := h j c hj
  exact ⟨b, o, e, hlt, hc 0 _ rfl, hc 1 _ rfl, hc 2 _ rfl, hc 3 _ rfl, hc 4 _ rfl, hc 5 _ rfl⟩
/-- A part of such a slice. -/
theorem ClsAt.sub {W : World} {b o : Nat} {L : List Cl} (h : ClsAt W (some ⟨b, o, none⟩) L) (k n : Nat) : ClsAt W (some ⟨b, o + k * 6, none⟩) ((L.drop k).take n) := by
  intro j c hj
  have hj2 : L[k + j]? = some c := by
    by_cases hn : j < n
    · rw [List.getElem?_take_of_lt hn, List.getElem?_drop] at hj; exact hj
    · rw [List.getElem?_take_eq_none (by omega)] at hj; cases hj
  obtain ⟨b', o', e, hlt, hc⟩ := h _ c hj2
  injection e with e; injection e with e1 e2
  subst e1 e2
  refine ⟨b, o + k * 6, rfl, hlt, fun i u hu => ?_⟩
  have := hc i u hu
  rw [show o + k * 6 + j * 6 + i = o + (k + j) * 6 + i by omega]
  exact this
/-- A slice of cells that the call made. -/
def OwnC (W : World) (B : Nat) (v : Value) (L : List Cl) : Prop := W.ownsRow B 82 6 v L.length (flatC L)
theorem OwnC.below {w W : World} {B : Nat} {v : Value} {L : List Cl} (h : OwnC w B v L) (hb : Below w.heap.size w W) : OwnC W B v L := by
  refine ⟨h.1, ?_⟩
  rcases h.2 with h0 | ⟨g, cap, cur, rfl, hg, hh, q⟩
  · exact .inl h0
  · exact .inr ⟨g, cap, cur, rfl, hg, (hb.block g (Array.getElem?_eq_some_iff.1 hh).1).trans hh, q⟩
theorem OwnC.form {W : World} {B : Nat} {v : Value} {L : List Cl} (h : OwnC W B v L) : ∃ A c, v = .slice A L.length c ∧ L.length ≤ c := by
  rcases h.2 with ⟨rfl, h0⟩ | ⟨g, cap, cur, rfl, hg, hh, q, _⟩
  · exact ⟨_, _, by rw [h0], by omega⟩
  · exact ⟨_, _, rfl, q⟩
theorem OwnC.formN {W : World} {B : Nat} {v : Value} {L : List Cl} (h : OwnC W B v L) (h0 : 0 < L.length) : ∃ g c, v = .slice (some ⟨g, 0, none⟩) L.length c ∧ L.length ≤ c ∧ B ≤ g := by
  rcases h.2 with ⟨rfl, h1⟩ | ⟨g, cap, cur, rfl, hg, hh, q, _⟩
  · omega
  · exact ⟨g, cap, rfl, q, hg⟩
theorem OwnC.cls {W : World} {B : Nat} {A : Option Addr} {n c : Nat} {L : List Cl} (h : OwnC W B (.slice A n c) L) : ClsAt W A L := by
  intro j x hj
  have hlt := (List.getElem?_eq_some_iff.1 hj).1
  have h2 := h
  rcases h.2 with ⟨e, h0⟩ | ⟨g, cap, cur, e, hg, hh, q⟩
  · omega
  · injection e with e1 e2 e3
    subst e1 e2 e3
    refine ⟨g, 0, rfl, (Array.getElem?_eq_some_iff.1 hh).1, fun i u hu => ?_⟩
    have hi : i < 6 := by have := (List.getElem?_eq_some_iff.1 hu).1; simpa [clCells] using this
    have := World.ownsRow.cellAt h2 (j * 6 + i) (by omega)
    rw [Nat.zero_add, this, flatC_at L j x hj i hi, hu]
theorem OwnC.set {W : World} {B g c : Nat} {L : List Cl} (h : OwnC W B (.slice (some ⟨g, 0, none⟩) L.length c) L) {j : Nat} (hj : j < L.length) (x : Cl) :
    OwnC ((((((W.setCell ⟨g, j * 6, none⟩ (.int .i32 x.r)).setCell ⟨g, j * 6 + 1, none⟩ (.int .i64 x.w)).setCell ⟨g, j * 6 + 2, none⟩ (.int .i64 x.fg)).setCell ⟨g, j * 6 + 3, none⟩ (.bool x.bo)).setCell ⟨g, j * 6 + 4, none⟩ (.bool x.un)).setCell ⟨g, j * 6 + 5, none⟩ (.bool x.iv)) B (.slice (some ⟨g, 0, none⟩) L.length c) (L.set j x) := by
  have h6 := ((((((h.stored (j * 6) (.int .i32 x.r)).1.stored (j * 6 + 1) (.int .i64 x.w)).1.stored (j * 6 + 2) (.int .i64 x.fg)).1.stored (j * 6 + 3) (.bool x.bo)).1.stored (j * 6 + 4) (.bool x.un)).1.stored (j * 6 + 5) (.bool x.iv)).1
  rw [flatC_set L j x hj] at h6
  unfold OwnC
  rw [List.length_set]
  exact h6
/-- Only a block of the call's own has changed, and new ones. -/
theorem grown6 (W : World) (g a b c d e f : Nat) (x y z u v t : Value) : W.grownBy ((((((W.setCell ⟨g, a, none⟩ x).setCell ⟨g, b, none⟩ y).setCell ⟨g, c, none⟩ z).setCell ⟨g, d, none⟩ u).setCell ⟨g, e, none⟩ v).setCell ⟨g, f, none⟩ t) (some g) := by
  have S : ∀ (w : World) (o : Nat) (q : Value), w.grownBy (w.setCell ⟨g, o, none⟩ q) (some g) := by
    intro w o q
    have h2 : (w.setCell ⟨g, o, none⟩ q).heap.size = w.heap.size := by unfold World.setCell; simp
    exact ⟨rfl, rfl, rfl, by omega, fun k _ hne => Below.heap_setCell w _ _ k (fun e => hne (by rw [e]))⟩
  exact ((((((S _ _ _).trans (S _ _ _)).trans (S _ _ _)).trans (S _ _ _)).trans (S _ _ _)).trans (S _ _ _))
/-- A frame, as a value. -/
def frV (f : Fr) (A : Option Addr) (n cap : Nat) : Value := .agg #[.int .i64 f.rows, .int .i64 f.cols, .slice A n cap, .int .i64 f.row, .int .i64 f.col]
def FrAt (W : World) (v : Value) (f : Fr) : Prop := ∃ A cap, v = frV f A f.cs.length cap ∧ f.cs.length ≤ cap ∧ cap ≤ maxLen ∧ ClsAt W A f.cs
theorem FrAt.below {w W : World} {v : Value} {f : Fr} (h : FrAt w v f) (hb : Below w.heap.size w W) : FrAt W v f := by
  obtain ⟨A, cap, e, h1, h2, h3⟩ := h
  exact ⟨A, cap, e, h1, h2, h3.below hb⟩
theorem FrAt.nil (W : World) : FrAt W (frV noF none 0 0) noF := ⟨none, 0, rfl, by simp [noF], by unfold maxLen; omega, fun j x h => by simp [noF] at h⟩
/-- The blank, in its block. -/
def BTab (W : World) : Prop := W.cell? ⟨2, 0, none⟩ = some (.int .i32 32) ∧ W.cell? ⟨2, 1, none⟩ = some (.int .i64 1) ∧ W.cell? ⟨2, 2, none⟩ = some (.int .i64 0) ∧ W.cell? ⟨2, 3, none⟩ = some (.bool false) ∧ W.cell? ⟨2, 4, none⟩ = some (.bool false) ∧ W.cell? ⟨2, 5, none⟩ = some (.bool false)
theorem kcG {W W' : World} {b o : Nat} {u : Value} (hb : Below W.heap.size W W') (h : W.cell? ⟨b, o, none⟩ = some u) : W'.cell? ⟨b, o, none⟩ = some u := (hb.cell (p := ⟨b, o, none⟩) (World.block_lt_of_cell? _ _ h)).trans h
theorem BTab.below {w W : World} (h : BTab w) (hb : Below w.heap.size w W) : BTab W := ⟨kcG hb h.1, kcG hb h.2.1, kcG hb h.2.2.1, kcG hb h.2.2.2.1, kcG hb h.2.2.2.2.1, kcG hb h.2.2.2.2.2⟩
end Go.Proofs.YtmemdhmjhckmaaaDoor
namespace Go.Proofs.YtmemdhmjhckmaaaDoor
open Go.RowKit

theorem ret_bG {a b : Bool} (h : a = b) : Ending.returned (.bool a) = .returned (.bool b) := by rw [h]
theorem may_t {a b : Int} : mayB a b = true ↔ 2 ≤ a ∧ a ≤ 100 ∧ 8 ≤ b ∧ b ≤ 200 := by simp [mayB]
set_option maxHeartbeats 1000000 in
theorem may_any (a b : Int) (w : World) : Calls Tryd.prog 44 #[.int .i64 a, .int .i64 b] w fun e w' => e = .returned (.bool (mayB a b)) ∧ w = w' := by
  go_enter Tryd.func44, Tryd.ntmps44
  go_wp2
  all_goals go_ret
  all_goals exact ⟨ret_bG (by rw [Bool.eq_iff_iff, may_t]; simp [Bool.and_eq_true] <;> omega), rfl⟩
set_option maxHeartbeats 1000000 in
theorem rmay_any (a b : Int) (w : World) : Calls Tryd.prog 47 #[.int .i64 a, .int .i64 b] w fun e w' => e = .returned (.bool (mayB a b)) ∧ w = w' := by
  go_enter Tryd.func47, Tryd.ntmps47
  go_wp2
  all_goals go_ret
  all_goals exact ⟨ret_bG (by rw [Bool.eq_iff_iff, may_t]; simp [Bool.and_eq_true] <;> omega), rfl⟩
theorem blank_any (w : World) : Calls Tryd.prog 48 #[] w fun e w' => e = .returned (clV blankC) ∧ Below w.heap.size w w' := by
  go_enter Tryd.func48, Tryd.ntmps48
  go_wp2
  refine bodyPost_ret (v := clV blankC) (by simp [results, Tryd.results48, go_sem, clV, blankC]) rfl ⟨rfl, (Below.refl _ _).alloc (Nat.le_refl _) _⟩
set_option maxHeartbeats 1000000 in
theorem style_any (c : Cl) (w : World) : Calls Tryd.prog 73 #[.agg #[.int .i64 c.fg, .bool c.bo, .bool c.un, .bool c.iv]] w fun e w' => e = .returned (.bool (styC c)) ∧ Below w.heap.size w w' := by
  have hs : styC c = (decide (0 ≤ c.fg) && decide (c.fg ≤ 8)) := by unfold styC; rw [Bool.eq_iff_iff]; simp
  have HS := hide hs
  clear hs
  go_enter Tryd.func73, Tryd.ntmps73
  go_wp2
  all_goals go_ret
  all_goals exact ⟨ret_bG (by rw [HS.out]; simp <;> omega), (Below.refl _ _).alloc (Nat.le_refl _) _⟩
set_option maxHeartbeats 1000000 in
theorem rstyle_any (c : Cl) (w : World) : Calls Tryd.prog 88 #[.agg #[.int .i64 c.fg, .bool c.bo, .bool c.un, .bool c.iv]] w fun e w' => e = .returned (.bool (styC c)) ∧ Below w.heap.size w w' := by
  have hs : styC c = (decide (0 ≤ c.fg) && decide (c.fg ≤ 8)) := by unfold styC; rw [Bool.eq_iff_iff]; simp
  have HS := hide hs
  clear hs
  go_enter Tryd.func88, Tryd.ntmps88
  go_wp2
  all_goals go_ret
  all_goals exact ⟨ret_bG (by rw [HS.out]; simp <;> omega), (Below.refl _ _).alloc (Nat.le_refl _) _⟩
theorem may_is (a b : Int) (x : Bool) (hx : mayB a b = x) (w : World) : Calls Tryd.prog 44 #[.int .i64 a, .int .i64 b] w fun e w' => e = .returned (.bool x) ∧ w = w' := by
  subst hx; exact may_any a b w
theorem rmay_is (a b : Int) (x : Bool) (hx : mayB a b = x) (w : World) : Calls Tryd.prog 47 #[.int .i64 a, .int .i64 b] w fun e w' => e = .returned (.bool x) ∧ w = w' := by
  subst hx; exact rmay_any a b w
end Go.Proofs.YtmemdhmjhckmaaaDoor
namespace Go.Proofs.YtmemdhmjhckmaaaDoor

theorem row_facts {l : List Cl} (h : rowB l = true) : ∀ (j : Nat) (c : Cl), l[j]? = some c → ((0 : Int) ≤ c.w ∧ c.w ≤ 2) ∧ (c.w = 2 → ∃ d, l[j + 1]? = some d ∧ d.w = 0) ∧ (c.w = 0 → 1 ≤ j ∧ ∃ d, l[j - 1]? = some d ∧ d.w = 2) := by
  intro j c hj
  rw [row_ok _ none (fun d h => by cases h), okFrom_iff] at h
  have h := h j c hj
  unfold cellB at h
  simp only [Bool.and_eq_true, Bool.or_eq_true, decide_eq_true_eq] at h
  obtain ⟨⟨⟨⟨-, h1⟩, -⟩, h2⟩, h3⟩ := h
  refine ⟨h1, fun h9 => ?_, fun h9 => ?_⟩
  · rcases h2 with h2 | h2
    · exact absurd h9 h2
    · cases hd : l[j + 1]? with
      | none => rw [hd] at h2; cases h2
      | some d => rw [hd] at h2; exact ⟨d, rfl, by simpa using h2⟩
  · rcases h3 with h3 | h3
    · exact absurd h9 h3
    · by_cases h0 : j = 0
      · rw [if_pos h0] at h3; cases h3
      · rw [if_neg h0] at h3
        cases hd : l[j - 1]? with
        | none => rw [hd] at h3; cases h3
        | some d =>
          rw [hd] at h3
          simp only [Option.any_some, Bool.and_eq_true, decide_eq_true_eq] at h3
          exact ⟨by omega, d, rfl, h3.1.1⟩

/-- A blank in the place of a cell, and of the other half of what stood there. -/
def wipeL (L : List Cl) (i : Nat) : List Cl :=
  (if (L.getD i blankC).w = 2 then L.set (i + 1) blankC else if (L.getD i blankC).w = 0 then L.set (i - 1) blankC else L).set i blankC
/-- The program's way. -/
def putL (L : List Cl) (i n : Nat) (c : Cl) : List Cl :=
  if n = 2 then ((wipeL (wipeL L i) (i + 1)).set (i + 1) (halfC c)).set i c else (wipeL L i).set i c
theorem wipe_len (L : List Cl) (i : Nat) : (wipeL L i).length = L.length := by unfold wipeL; (repeat' split) <;> simp
theorem put_len (L : List Cl) (i n : Nat) (c : Cl) : (putL L i n c).length = L.length := by unfold putL; split <;> simp [wipe_len]
/-- Halves that have lost the other one, from the front on. -/
def mendAt (p : Option Cl) (c : Cl) (n : Option Cl) : Cl := if (c.w = 2 ∧ n.all (fun d => decide (d.w ≠ 0)) = true) ∨ (c.w = 0 ∧ p.all (fun d => decide (d.w ≠ 2)) = true) then blankC else c
def mendL (p : Option Cl) : List Cl → List Cl
  | [] => []
  | c :: t => mendAt p c t.head? :: mendL (some (mendAt p c t.head?)) t
theorem mend_left (p : Option Cl) (c d : Cl) (n : Option Cl) : mendAt (some (mendAt p c (some d))) d n = mendAt (some c) d n := by
  by_cases h : (c.w = 2 ∧ (some d : Option Cl).all (fun d => decide (d.w ≠ 0)) = true) ∨ (c.w = 0 ∧ p.all (fun d => decide (d.w ≠ 2)) = true)
  · have e : mendAt p c (some d) = blankC := if_pos h
    rw [e]
    unfold mendAt
    simp only [Option.all_some, decide_eq_true_eq] at h ⊢
    have hb : blankC.w ≠ 2 := by decide
    rcases h with ⟨h1, h2⟩ | ⟨h1, h2⟩
    · simp only [h2, false_and, or_false]
    · have : c.w ≠ 2 := by rw [h1]; decide
      simp only [hb, this, ne_eq, not_false_eq_true, and_true]
  · have e : mendAt p c (some d) = c := if_neg h
    rw [e]
theorem mendL_at (l : List Cl) (p : Option Cl) (j : Nat) : (mendL p l)[j]? = l[j]?.map fun c => mendAt (if j = 0 then p else l[j - 1]?) c l[j + 1]? := by
  induction l generalizing p j with
  | nil => simp [mendL]
  | cons a t ih =>
    rw [mendL]
    cases j with
    | zero => simp [List.head?_eq_getElem?]
    | succ j =>
      rw [List.getElem?_cons_succ, ih, List.getElem?_cons_succ, List.getElem?_cons_succ, Nat.add_sub_cancel, if_neg (Nat.succ_ne_zero j)]
      cases j with
      | zero =>
        cases t with
        | nil => simp
        | cons d t =>
          show some (mendAt (some (mendAt p a (some d))) d t[0]?) = some (mendAt (some a) d t[0]?)
          rw [mend_left]
      | succ j => simp
theorem mend_len (l : List Cl) (p : Option Cl) : (mendL p l).length = l.length := by
  induction l generalizing p with
  | nil => rfl
  | cons a t ih => simp [mendL, ih]
def blankN (l : List Cl) (i n : Nat) : List Cl := if n = 2 then (l.set i blankC).set (i + 1) blankC else l.set i blankC
/-- The document's way, in a row. -/
def putD (l : List Cl) (i n : Nat) (c : Cl) : List Cl := if n = 2 then ((mendL none (blankN l i n)).set i c).set (i + 1) (halfC c) else (mendL none (blankN l i n)).set i c
theorem getD_some {L : List Cl} {i : Nat} {c : Cl} (h : L[i]? = some c) : L.getD i blankC = c := by rw [List.getD_eq_getElem?_getD, h]; rfl
/-- What stands where, behind a rune put in. -/
def putAt (l : List Cl) (i n : Nat) (c : Cl) (j : Nat) : Option Cl :=
  if j = i then some c else if n = 2 ∧ j = i + 1 then some (halfC c)
  else if (j + 1 = i ∧ (l.getD i blankC).w = 0) ∨ (j = i + n ∧ (l.getD (i + n - 1) blankC).w = 2) then some blankC else l[j]?
theorem blank_w : blankC.w = 1 := rfl
theorem putL_at {l : List Cl} (h : rowB l = true) {i n : Nat} (hn : n = 1 ∨ n = 2) (hi : i + n ≤ l.length) (c : Cl) (j : Nat) : (putL l i n c)[j]? = putAt l i n c j := by
  have hx := List.getElem?_eq_getElem (show i < l.length by omega)
  obtain ⟨f1, f2, f3⟩ := row_facts h i _ hx
  have gx := getD_some hx
  rcases hn with rfl | rfl
  · unfold putL putAt wipeL
    rw [if_neg (by omega), gx, show i + 1 - 1 = i by omega, gx]
    by_cases h2 : l[i].w = 2
    · obtain ⟨d, hd, hd2⟩ := f2 h2
      have hl := (List.getElem?_eq_some_iff.1 hd).1
      rw [if_pos h2]
      simp only [List.getElem?_set, List.length_set]
      by_cases e1 : j = i
      · subst e1; simp; omega
      by_cases e2 : j = i + 1
      · subst e2
        simp only [show i ≠ i + 1 by omega, if_false, if_true, hl, show i + 1 ≠ i by omega, h2, and_self, or_true]
        simp
      · simp [e1, e2, Ne.symm e1, Ne.symm e2, h2]
    rw [if_neg h2]
    by_cases h0 : l[i].w = 0
    · obtain ⟨hi1, d, hd, hd2⟩ := f3 h0
      rw [if_pos h0]
      simp only [List.getElem?_set, List.length_set]
      by_cases e1 : j = i
      · subst e1; simp; omega
      by_cases e2 : j + 1 = i
      · have e3 : i - 1 = j := by omega
        simp only [e3, Ne.symm e1, if_false, if_true, e1, show j < l.length by omega, e2, h0, and_self, true_or]
        simp
      · simp [e1, e2, Ne.symm e1, show ¬ i - 1 = j by omega, h2]
    · rw [if_neg h0]
      simp only [List.getElem?_set, List.length_set]
      by_cases e1 : j = i
      · subst e1; simp; omega
      · simp [e1, Ne.symm e1, h0, h2]
  · have hy := List.getElem?_eq_getElem (show i + 1 < l.length by omega)
    obtain ⟨g1, g2, g3⟩ := row_facts h (i + 1) _ hy
    have gy := getD_some hy
    have hw1 : (wipeL l i)[i + 1]? = some (if l[i].w = 2 then blankC else l[i + 1]) := by
      unfold wipeL
      rw [gx]
      by_cases h2 : l[i].w = 2
      · rw [if_pos h2, if_pos h2]; simp [List.getElem?_set]; omega
      · rw [if_neg h2, if_neg h2]
        split
        · simp only [List.getElem?_set]; simp [show ¬ i - 1 = i + 1 by omega, hy]
        · simp only [List.getElem?_set]; simp [hy]
    have hw2 : (wipeL l i)[j]? = if j = i then some blankC else if (l[i].w = 2 ∧ j = i + 1) ∨ (l[i].w = 0 ∧ j + 1 = i) then some blankC else l[j]? := by
      unfold wipeL
      rw [gx]
      by_cases e1 : j = i
      · subst e1
        have hz : ∀ b : List Cl, b.length = l.length → (b.set j blankC)[j]? = some blankC := fun b hb => by rw [List.getElem?_set, if_pos rfl, if_pos (by omega)]
        rw [if_pos rfl]
        (repeat' split) <;> exact hz _ (by simp)
      rw [if_neg e1]
      by_cases h2 : l[i].w = 2
      · rw [if_pos h2]
        simp only [List.getElem?_set, List.length_set, Ne.symm e1, if_false]
        by_cases e2 : i + 1 = j
        · subst e2; simp [h2]; omega
        · simp [e2, Ne.symm e2, h2]
      rw [if_neg h2]
      by_cases h0 : l[i].w = 0
      · obtain ⟨hi1, d, hd, hd2⟩ := f3 h0
        rw [if_pos h0]
        simp only [List.getElem?_set, List.length_set, Ne.symm e1, if_false]
        by_cases e2 : i - 1 = j
        · have e3 : j + 1 = i := by omega
          simp only [e2, if_true, h0, e3, and_self, or_true]
          simp; omega
        · simp [e2, show ¬ j + 1 = i by omega, h2]
      · rw [if_neg h0]
        simp [List.getElem?_set, Ne.symm e1, h2, h0]
    unfold putL putAt
    rw [if_pos rfl, show i + 2 - 1 = i + 1 by omega, gx, gy]
    have hz1 := wipe_len (wipeL l i) (i + 1)
    have hz2 := wipe_len l i
    obtain ⟨L1, hL1⟩ : ∃ L1, wipeL l i = L1 := ⟨_, rfl⟩
    rw [hL1] at hw1 hw2 hz1 hz2 ⊢
    clear hL1
    by_cases e1 : j = i
    · subst e1
      rw [if_pos rfl, List.getElem?_set, if_pos rfl, if_pos (by simp [hz1, hz2]; omega)]
    rw [if_neg e1, List.getElem?_set, if_neg (Ne.symm e1)]
    by_cases e2 : j = i + 1
    · subst e2
      rw [if_pos ⟨rfl, rfl⟩, List.getElem?_set, if_pos rfl, if_pos (by rw [hz1, hz2]; omega)]
    rw [if_neg (by omega), List.getElem?_set, if_neg (Ne.symm e2)]
    conv => lhs; unfold wipeL
    rw [getD_some hw1, List.getElem?_set, if_neg (Ne.symm e2)]
    by_cases h2 : l[i].w = 2
    · obtain ⟨d, hd, hd2⟩ := f2 h2
      rw [hy] at hd
      injection hd with hd
      subst hd
      simp only [h2, if_true, blank_w]
      rw [if_neg (by omega), if_neg (by omega), hw2, if_neg e1, if_neg (by omega), if_neg (by omega)]
    simp only [h2, if_false]
    by_cases h3 : l[i + 1].w = 2
    · obtain ⟨d, hd, hd2⟩ := g2 h3
      rw [if_pos h3, List.getElem?_set]
      by_cases e3 : i + 1 + 1 = j
      · rw [if_pos e3, if_pos (by rw [hz2]; exact (List.getElem?_eq_some_iff.1 hd).1), if_pos (.inr ⟨by omega, h3⟩)]
      · rw [if_neg e3, hw2, if_neg e1]
        by_cases h9 : l[i].w = 0 ∧ j + 1 = i
        · rw [if_pos (.inr h9), if_pos (.inl ⟨h9.2, h9.1⟩)]
        · rw [if_neg (by omega), if_neg (by omega)]
    rw [if_neg h3]
    by_cases h4 : l[i + 1].w = 0
    · obtain ⟨_, d, hd, hd2⟩ := g3 h4
      rw [Nat.add_sub_cancel, hx] at hd
      injection hd with hd
      subst hd
      exact absurd hd2 h2
    rw [if_neg h4, hw2, if_neg e1]
    by_cases h9 : l[i].w = 0 ∧ j + 1 = i
    · rw [if_pos (.inr h9), if_pos (.inl ⟨h9.2, h9.1⟩)]
    · rw [if_neg (by omega), if_neg (by omega)]
theorem mend_keep {l : List Cl} (h : rowB l = true) {j : Nat} {c : Cl} (hj : l[j]? = some c) : mendAt (if j = 0 then none else l[j - 1]?) c l[j + 1]? = c := by
  obtain ⟨f1, f2, f3⟩ := row_facts h j c hj
  unfold mendAt
  rw [if_neg]
  rintro (⟨h1, h2⟩ | ⟨h1, h2⟩)
  · obtain ⟨d, hd, hd2⟩ := f2 h1
    rw [hd] at h2
    simp [hd2] at h2
  · obtain ⟨hi, d, hd, hd2⟩ := f3 h1
    rw [if_neg (by omega), hd] at h2
    simp [hd2] at h2
end Go.Proofs.YtmemdhmjhckmaaaDoor
namespace Go.Proofs.YtmemdhmjhckmaaaDoor
open Go.RowKit

def sameC (c d : Cl) : Bool := decide (c = d)
theorem sameC_eq (c d : Cl) : sameC c d = (decide (c.r = d.r) && decide (c.w = d.w) && styE c d) := by
  obtain ⟨r, w, a, b, e, f⟩ := c
  obtain ⟨r', w', a', b', e', f'⟩ := d
  unfold sameC styE
  rw [Bool.eq_iff_iff]
  simp [Cl.mk.injEq, and_assoc]
theorem styE_eq (c d : Cl) : styE c d = (c.fg == d.fg && c.bo == d.bo && c.un == d.un && c.iv == d.iv) := by
  unfold styE
  cases h : (c.fg == d.fg) <;> simp_all
theorem eqStyN (n : Nat) (c d : Cl) (w : World) : (Op.equalIn (n + 2) 38 (.agg #[.int .i64 c.fg, .bool c.bo, .bool c.un, .bool c.iv]) (.agg #[.int .i64 d.fg, .bool d.bo, .bool d.un, .bool d.iv])).run Tryd.prog w = .ok (styE c d) w := by
  have u3 := Tryd.underlying3
  have a3 := Tryd.isAgg3
  have z3 := Tryd.sizeOf3
  have u4 := Tryd.underlying4
  have a4 := Tryd.isAgg4
  have z4 := Tryd.sizeOf4
  have hS : Tryd.prog.underlying 38 = some (.struct (Tryd.prog.fieldsOf 38)) := by kernel_rfl
  have hp : Tryd.prog.stoodInHeld 38 = false := by kernel_rfl
  rw [run_equalIn_agg w (n + 1) 38 _ _ hS hp, styE_eq]
  simp only [Program.fieldsOf, Tryd.underlying38]
  go_simp
  by_cases h1 : c.fg = d.fg <;> by_cases h2 : c.bo = d.bo <;> by_cases h3 : c.un = d.un <;> by_cases h4 : c.iv = d.iv <;> simp [h1, h2, h3, h4]
theorem eqSty (c d : Cl) (w : World) : (Op.equalIn 9999 38 (.agg #[.int .i64 c.fg, .bool c.bo, .bool c.un, .bool c.iv]) (.agg #[.int .i64 d.fg, .bool d.bo, .bool d.un, .bool d.iv])).run Tryd.prog w = .ok (styE c d) w := eqStyN 9997 c d w
theorem eqSty1 (c d : Cl) (w : World) : (Op.equalIn 10000 38 (.agg #[.int .i64 c.fg, .bool c.bo, .bool c.un, .bool c.iv]) (.agg #[.int .i64 d.fg, .bool d.bo, .bool d.un, .bool d.iv])).run Tryd.prog w = .ok (styE c d) w := eqStyN 9998 c d w
theorem eqCell (c d : Cl) (w : World) : (Op.equalIn 10000 82 (clV c) (clV d)).run Tryd.prog w = .ok (sameC c d) w := by
  have u3 := Tryd.underlying3
  have a3 := Tryd.isAgg3
  have z3 := Tryd.sizeOf3
  have u1 := Tryd.underlying21
  have a1 := Tryd.isAgg21
  have z1 := Tryd.sizeOf21
  have a5 := Tryd.isAgg38
  have z5 := Tryd.sizeOf38
  have hS : Tryd.prog.underlying 82 = some (.struct (Tryd.prog.fieldsOf 82)) := by kernel_rfl
  have hp : Tryd.prog.stoodInHeld 82 = false := by kernel_rfl
  have hs := eqSty c d
  unfold clV
  rw [show (10000 : Nat) = 9999 + 1 from rfl, run_equalIn_agg w 9999 82 _ _ hS hp]
  simp only [Program.fieldsOf, Tryd.underlying82]
  go_simp
  rw [sameC_eq]
  by_cases h1 : c.r = d.r <;> by_cases h2 : c.w = d.w <;> cases h3 : styE c d <;> simp [h1, h2]
@[go_sem high] theorem neqCell (r wd fg : Int) (bo un iv : Bool) (r' wd' fg' : Int) (bo' un' iv' : Bool) (w : World) :
    (binOp .neq 82 (.agg #[.int .i32 r, .int .i64 wd, .int .i64 fg, .bool bo, .bool un, .bool iv]) (.agg #[.int .i32 r', .int .i64 wd', .int .i64 fg', .bool bo', .bool un', .bool iv'])).run Tryd.prog w = .ok (.bool (!sameC ⟨r, wd, fg, bo, un, iv⟩ ⟨r', wd', fg', bo', un', iv'⟩)) w := by
  have h := eqCell ⟨r, wd, fg, bo, un, iv⟩ ⟨r', wd', fg', bo', un', iv'⟩ w
  unfold clV at h
  rw [run_neq_struct, h]
  rfl
@[go_sem high] theorem neqStyle (fg : Int) (bo un iv : Bool) (fg' : Int) (bo' un' iv' : Bool) (w : World) :
    (binOp .neq 38 (.agg #[.int .i64 fg, .bool bo, .bool un, .bool iv]) (.agg #[.int .i64 fg', .bool bo', .bool un', .bool iv'])).run Tryd.prog w = .ok (.bool (!styE ⟨0, 0, fg, bo, un, iv⟩ ⟨0, 0, fg', bo', un', iv'⟩)) w := by
  have h := eqSty1 ⟨0, 0, fg, bo, un, iv⟩ ⟨0, 0, fg', bo', un', iv'⟩ w
  rw [run_neq_struct, h]
  rfl
@[go_sem] theorem guardCell (op : BinOp) (x y : Operand) (xs ys : Array Value) (w : World) : (eqGuard op 82 x y (.agg xs) (.agg ys)).run Tryd.prog w = .ok () w := run_eqGuard_agg w op _ x y xs ys (by kernel_rfl)
@[go_sem] theorem guardStyle (op : BinOp) (x y : Operand) (xs ys : Array Value) (w : World) : (eqGuard op 38 x y (.agg xs) (.agg ys)).run Tryd.prog w = .ok () w := run_eqGuard_agg w op _ x y xs ys (by kernel_rfl)
end Go.Proofs.YtmemdhmjhckmaaaDoor
namespace Go.Proofs.YtmemdhmjhckmaaaDoor
open Go.RowKit

theorem ClsAt.tail {W : World} {b o : Nat} {L : List Cl} (h : ClsAt W (some ⟨b, o, none⟩) L) (k : Nat) : ClsAt W (some ⟨b, o + k * 6, none⟩) (L.drop k) := by
  have := h.sub k L.length
  rwa [List.take_of_length_le (by simp)] at this
def lnOf : Value → Nat | .slice _ n _ => n | _ => 0
/-- A slice that reads as these cells, with its numbers. -/
def SlC (W : World) (v : Value) (L : List Cl) : Prop := ∃ A n cap, v = .slice A n cap ∧ n = L.length ∧ n ≤ cap ∧ cap ≤ maxLen ∧ ClsAt W A L
theorem SlC.below {w W : World} {v : Value} {L : List Cl} (h : SlC w v L) (hb : Below w.heap.size w W) : SlC W v L := by
  obtain ⟨A, n, cap, e, h1, h2, h3, h4⟩ := h
  exact ⟨A, n, cap, e, h1, h2, h3, h4.below hb⟩
theorem row_bad {c : Cl} {t : List Cl} (h : ¬ c.w = 1) (h2 : ¬ c.w = 2) : rowB (c :: t) = false := by
  cases t with
  | nil => simp [rowB, h]
  | cons d t => simp [rowB, h, h2]
theorem row_one {c : Cl} {t : List Cl} (h : c.w = 1) : rowB (c :: t) = (decide (cells c.r = 1) && styC c && rowB t) := by
  cases t with
  | nil => simp [rowB, h]
  | cons d t => simp [rowB, h]
theorem row_last {c : Cl} (h : c.w = 2) : rowB [c] = false := by simp [rowB, h]
theorem row_two {c d : Cl} {t : List Cl} (h : c.w = 2) : rowB (c :: d :: t) = (decide (cells c.r = 2) && styC c && decide (d = halfC c) && rowB t) := by simp [rowB, h]
/-- A slice that is cut in front. -/
theorem sl_front {W W' : World} {b o n cap k : Nat} {l : List Cl} (h : ClsAt W (some ⟨b, o, none⟩) l) (hn : n = l.length) (hc : n ≤ cap) (hb : Below W.heap.size W W') : ClsAt W' (if cap = k then some ⟨b, o, none⟩ else some ⟨b, o + k * 6, none⟩) (l.drop k) := by
  by_cases e : cap = k
  · rw [List.drop_eq_nil_of_le (by omega)]
    intro j c hj
    simp at hj
  · rw [if_neg e]
    exact (h.tail k).below hb
theorem below_drewG {B : Nat} {a w : World} (h : Below B a w) (n : Nat) : Below B a (w.drewN n) := ⟨h.os, h.tape, h.output, h.size, h.block⟩

set_option maxRecDepth 100000 in
set_option maxHeartbeats 4000000 in
theorem row_any (L : List Cl) (v : Value) (w : World) (h : SlC w v L) (hT : WTabs w) :
    Calls Tryd.prog 45 #[v] w fun e w' => e = .returned (.bool (rowB L)) ∧ Below w.heap.size w w' := by
  have HT := hide hT
  have H := hide h
  obtain ⟨A0, n0, cap0, rfl, -⟩ := h
  clear hT
  go_enter Tryd.func45, Tryd.ntmps45
  go_wp2
  go_loopw [0] (fun v wr => ∃ (A : Option Addr) (n cap : Nat) (l : List Cl), v = .slice A n cap ∧ Hid (n = l.length) ∧ n ≤ cap ∧ cap ≤ maxLen ∧ n ≤ L.length ∧ Hid (ClsAt wr A l) ∧ Hid (rowB l = rowB L) ∧ Hid (Below w.heap.size w wr)) (fun v _ => lnOf v)
  case atStart =>
    obtain ⟨A, n, cap, e, h1, h2, h3, h4⟩ := H.out
    exact ⟨A, n, cap, L, e, hide h1, h2, h3, by omega, hide h4, hide rfl, hide (Below.refl _ _)⟩
  case round =>
    obtain ⟨A, n, cap, l, rfl, HN, hn, hcap, hnL, HC, HR, HB⟩ := hrel
    cases l with
    | nil =>
      obtain rfl : n = 0 := HN.out
      go_wp2
      go_ret
      exact ⟨by rw [← HR.out]; rfl, HB.out⟩
    | cons c t =>
      obtain ⟨b, o, rfl, hlt, c0, c1, c2, c3, c4, c5⟩ := HC.out.at (j := 0) (c := c) rfl
      rw [Nat.zero_mul, Nat.add_zero] at c0 c1 c2 c3 c4 c5
      have hn1 : 1 ≤ n := by have := HN.out; simp only [List.length_cons] at this; omega
      obtain ⟨r, wd, fg, bo, un, iv⟩ := c
      dsimp only at c0 c1 c2 c3 c4 c5
      have HA := hide (show Below wr.heap.size wr (wr.alloc (.cells #[.int .i32 r, .int .i64 wd, .int .i64 fg, .bool bo, .bool un, .bool iv] 82)) from (Below.refl _ _).alloc (Nat.le_refl _) _)
      have HK := hide (Blk.new wr 82 [.int .i32 r, .int .i64 wd, .int .i64 fg, .bool bo, .bool un, .bool iv])
      have HO := hide (fun W hW => wof_any r W hW)
      have HS := hide (fun W => style_any ⟨r, wd, fg, bo, un, iv⟩ W)
      have HX1 := hide (fun h => @row_one ⟨r, wd, fg, bo, un, iv⟩ t h)
      have HXB := hide (fun h h2 => @row_bad ⟨r, wd, fg, bo, un, iv⟩ t h h2)
      have HXL := hide (fun h => @row_last ⟨r, wd, fg, bo, un, iv⟩ h)
      have HXT := hide (fun d t h => @row_two ⟨r, wd, fg, bo, un, iv⟩ d t h)
      obtain ⟨cr, hcr⟩ : ∃ x, cells r = x := ⟨_, rfl⟩
      obtain ⟨sc, hsc⟩ : ∃ x, styC ⟨r, wd, fg, bo, un, iv⟩ = x := ⟨_, rfl⟩
      have HCR := hide hcr
      have HSC := hide hsc
      clear hcr hsc
      have HT1 := hide (HT.out.below (HB.out.trans (HA.out.mono HB.out.size)))
      have HBA := hide (HB.out.trans (HA.out.mono HB.out.size))
      have HCL := hide (fun W (hb : Below wr.heap.size wr W) k => sl_front (k := k) HC.out HN.out hn hb)
      by_cases h1 : wd = 1
      · subst h1
        have HX := hide (HX1.out rfl)
        clear HX1 HXB HXL HXT
        by_cases hw : cr = 1
        · subst hw
          cases sc with
          | true =>
            go_wp2_with (first
              | (go_at_call 18; refine (HO.out _ HT1.out).mono ?_; rintro e w1 ⟨rfl, hb1⟩; rw [HCR.out]; have d2 := (HK.out.below hb1).cell (i := 2) rfl; have d3 := (HK.out.below hb1).cell (i := 3) rfl; have d4 := (HK.out.below hb1).cell (i := 4) rfl; have d5 := (HK.out.below hb1).cell (i := 5) rfl; have HB1 := hide hb1)
              | (go_at_call 73; refine (HS.out _).mono ?_; rintro e w2 ⟨rfl, hb2⟩; rw [HSC.out]; have HB2 := hide hb2)
              | fail)
            have HBB := hide (HA.out.trans ((HB1.out.trans (HB2.out.mono HB1.out.size)).mono (by simp)))
            go_region
            all_goals go_wp2
            go_roundw
            case rel => exact ⟨_, _, _, t, rfl, hide (by have := HN.out; simp only [List.length_cons] at this; omega), by omega, by omega, by omega, hide (HCL.out _ HBB.out 1), hide (by rw [← HR.out, HX.out, HCR.out, HSC.out]; simp), hide (below_drewG (HB.out.trans (HBB.out.mono HB.out.size)) _)⟩
            case measure => simp [lnOf]; omega
          | false =>
            go_wp2_with (first
              | (go_at_call 18; refine (HO.out _ HT1.out).mono ?_; rintro e w1 ⟨rfl, hb1⟩; rw [HCR.out]; have d2 := (HK.out.below hb1).cell (i := 2) rfl; have d3 := (HK.out.below hb1).cell (i := 3) rfl; have d4 := (HK.out.below hb1).cell (i := 4) rfl; have d5 := (HK.out.below hb1).cell (i := 5) rfl; have HB1 := hide hb1)
              | (go_at_call 73; refine (HS.out _).mono ?_; rintro e w2 ⟨rfl, hb2⟩; rw [HSC.out]; have HB2 := hide hb2)
              | fail)
            have HBB := hide (HA.out.trans ((HB1.out.trans (HB2.out.mono HB1.out.size)).mono (by simp)))
            go_ret
            exact ⟨ret_bG (by rw [← HR.out, HX.out, HSC.out]; simp), HB.out.trans (HBB.out.mono HB.out.size)⟩
        · go_wp2_with (first
              | (go_at_call 18; refine (HO.out _ HT1.out).mono ?_; rintro e w1 ⟨rfl, hb1⟩; rw [HCR.out]; have HB1 := hide hb1)
              | fail)
          have HBB := hide (HA.out.trans (HB1.out.mono (by simp)))
          go_ret
          exact ⟨ret_bG (by rw [← HR.out, HX.out, HCR.out]; simp [hw]), HB.out.trans (HBB.out.mono HB.out.size)⟩
      by_cases h2 : wd = 2
      · subst h2
        cases t with
        | nil =>
          have HX := hide (HXL.out rfl)
          have hn1 : n = 1 := HN.out
          subst hn1
          clear HX1 HXB HXL HXT
          go_wp2
          go_ret
          exact ⟨ret_bG (by rw [← HR.out, HX.out]), HBA.out⟩
        | cons d t =>
          have HX := hide (HXT.out d t rfl)
          clear HX1 HXB HXL HXT
          have hn2 : 2 ≤ n := by have := HN.out; simp only [List.length_cons] at this; omega
          have HCA := hide (fun W (hb : Below wr.heap.size wr W) => ClsAt.at (show ClsAt W _ _ from HC.out.below hb) (j := 1) (c := d) rfl)
          by_cases hw : cr = 2
          · subst hw
            cases sc with
            | true =>
              go_wp2_with (first
                | (go_at_call 18; refine (HO.out _ HT1.out).mono ?_; rintro e w1 ⟨rfl, hb1⟩; rw [HCR.out]; have d2 := (HK.out.below hb1).cell (i := 2) rfl; have d3 := (HK.out.below hb1).cell (i := 3) rfl; have d4 := (HK.out.below hb1).cell (i := 4) rfl; have d5 := (HK.out.below hb1).cell (i := 5) rfl; have HK1 := hide (HK.out.below hb1); have HB1 := hide hb1)
                | (go_at_call 73; refine (HS.out _).mono ?_; rintro e w2 ⟨rfl, hb2⟩; rw [HSC.out]; have HK2 := hide (HK1.out.below hb2); have HB2 := hide hb2)
                | fail)
              have HBB := hide (HA.out.trans ((HB1.out.trans (HB2.out.mono HB1.out.size)).mono (by simp)))
              clear d2 d3 d4 d5 hb1 hb2
              have d2 := HK2.out.cell (i := 2) rfl
              have d3 := HK2.out.cell (i := 3) rfl
              have d4 := HK2.out.cell (i := 4) rfl
              have d5 := HK2.out.cell (i := 5) rfl
              obtain ⟨b', o', e, hlt', g0, g1, g2, g3, g4, g5⟩ := HCA.out _ HBB.out
              injection e with e
              injection e with e1 e2
              subst e1 e2
              simp only [Nat.one_mul] at g0 g1 g2 g3 g4 g5
              obtain ⟨r', wd', fg', bo', un', iv'⟩ := d
              dsimp only at g0 g1 g2 g3 g4 g5
              by_cases hd : (⟨r', wd', fg', bo', un', iv'⟩ : Cl) = ⟨0, 0, fg, bo, un, iv⟩
              · have HD := hide hd
                have hsame : sameC ⟨r', wd', fg', bo', un', iv'⟩ ⟨0, 0, fg, bo, un, iv⟩ = true := by unfold sameC; rw [HD.out]; simp
                clear hd
                go_region
                all_goals go_wp2
                go_roundw
                case rel => exact ⟨_, _, _, t, rfl, hide (by have := HN.out; simp only [List.length_cons] at this; omega), by omega, by omega, by omega, hide (HCL.out _ HBB.out 2), hide (by rw [← HR.out, HX.out, HCR.out, HSC.out, HD.out]; simp [halfC]), hide (below_drewG (HB.out.trans (HBB.out.mono HB.out.size)) _)⟩
                case measure => simp [lnOf]; omega
              · have HD := hide hd
                have hsame : sameC ⟨r', wd', fg', bo', un', iv'⟩ ⟨0, 0, fg, bo, un, iv⟩ = false := by unfold sameC; exact decide_eq_false HD.out
                clear hd
                go_region
                all_goals go_wp2
                go_ret
                exact ⟨ret_bG (by rw [← HR.out, HX.out, show decide ((⟨r', wd', fg', bo', un', iv'⟩ : Cl) = halfC ⟨r, 2, fg, bo, un, iv⟩) = false from decide_eq_false HD.out]; simp), below_drewG (HB.out.trans (HBB.out.mono HB.out.size)) _⟩
            | false =>
              go_wp2_with (first
                | (go_at_call 18; refine (HO.out _ HT1.out).mono ?_; rintro e w1 ⟨rfl, hb1⟩; rw [HCR.out]; have d2 := (HK.out.below hb1).cell (i := 2) rfl; have d3 := (HK.out.below hb1).cell (i := 3) rfl; have d4 := (HK.out.below hb1).cell (i := 4) rfl; have d5 := (HK.out.below hb1).cell (i := 5) rfl; have HB1 := hide hb1)
                | (go_at_call 73; refine (HS.out _).mono ?_; rintro e w2 ⟨rfl, hb2⟩; rw [HSC.out]; have HB2 := hide hb2)
                | fail)
              have HBB := hide (HA.out.trans ((HB1.out.trans (HB2.out.mono HB1.out.size)).mono (by simp)))
              go_ret
              exact ⟨ret_bG (by rw [← HR.out, HX.out, HSC.out]; simp), HB.out.trans (HBB.out.mono HB.out.size)⟩
          · go_wp2_with (first
                | (go_at_call 18; refine (HO.out _ HT1.out).mono ?_; rintro e w1 ⟨rfl, hb1⟩; rw [HCR.out]; have HB1 := hide hb1)
                | fail)
            have HBB := hide (HA.out.trans (HB1.out.mono (by simp)))
            go_ret
            exact ⟨ret_bG (by rw [← HR.out, HX.out, HCR.out]; simp [hw]), HB.out.trans (HBB.out.mono HB.out.size)⟩
      · have HX := hide (HXB.out h1 h2)
        clear HX1 HXB HXL HXT
        go_wp2_with (first
          | (go_at_call 18; refine (HO.out _ HT1.out).mono ?_; rintro e w1 ⟨rfl, hb1⟩; fail)
          | fail)
        all_goals go_ret
        all_goals exact ⟨ret_bG (by rw [← HR.out, HX.out]), HBA.out⟩
end Go.Proofs.YtmemdhmjhckmaaaDoor
