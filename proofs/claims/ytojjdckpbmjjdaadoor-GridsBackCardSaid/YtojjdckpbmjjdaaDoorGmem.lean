/- Where a screen's cells lie. -/
import Derived.Test.YtojjdckpbmjjdaaDoorGplain
import Derived.Test.YtojjdckpbmjjdaaDoorIn
import Derived.Test.YtojjdckpbmjjdaaDoorOpenrow
import Derived.Test.YtojjdckpbmjjdaaDoorBlk
import Derived.Laws.OwnMore
import Derived.OwnWalk
import Derived.Maps.AppendAt
import Derived.Deep.RegionHeld3
import Derived.Deep.DeepFit
namespace Go.Proofs.YtojjdckpbmjjdaaDoor
open Go.RowKit

def clCells (c : Cl) : List Value := [.int .i32 c.r, .int .i64 c.w, .int .i64 c.fg, .bool c.bo, .bool c.un, .bool c.iv]
def clV (c : Cl) : Value := .agg #[.int .i32 c.r, .int .i64 c.w, .int .i64 c.fg, .bool c.bo, .bool c.un, .bool c.iv]
def stV (c : Cl) : Value := .agg #[.int .i64 c.fg, .bool c.bo, .bool c.un, .bool c.iv]
def flatC (L : List Cl) : List Value := L.flatMap clCells
theorem flatC_len (L : List Cl) : (flatC L).length = L.length * 6 := by
  unfold flatC
  induction L with
  | nil => rfl
  | cons a l ih => simp only [List.flatMap_cons, List.length_append, clCells, List.length_cons, List.length_nil] at ih ⊢; omega
theorem flatC_app (L M : List Cl) : flatC (L ++ M) = flatC L ++ flatC M := by simp [flatC]
theorem flatC_at (L : List Cl) (j : Nat) (c : Cl) (h : L[j]? = some c) (i : Nat) (hi : i < 6) : (flatC L)[j * 6 + i]? = (clCells c)[i]? := by
  induction L generalizing j with
  | nil => simp at h
  | cons a l ih =>
    unfold flatC at ih ⊢
    rw [List.flatMap_cons]
    cases j with
    | zero =>
      obtain rfl : a = c := by simpa using h
      rw [List.getElem?_append_left (by simp [clCells]; omega), Nat.zero_mul, Nat.zero_add]
    | succ j =>
      rw [List.getElem?_append_right (by simp [clCells]; omega), show (j + 1) * 6 + i - (clCells a).length = j * 6 + i by simp [clCells]; omega]
      exact ih j (by simpa using h)
theorem flatC_set (L : List Cl) (j : Nat) (c : Cl) (h : j < L.length) : ((((((flatC L).set (j * 6) (.int .i32 c.r)).set (j * 6 + 1) (.int .i64 c.w)).set (j * 6 + 2) (.int .i64 c.fg)).set (j * 6 + 3) (.bool c.bo)).set (j * 6 + 4) (.bool c.un)).set (j * 6 + 5) (.bool c.iv) = flatC (L.set j c) := by
  induction L generalizing j with
  | nil => simp at h
  | cons a l ih =>
    cases j with
    | zero =>
      simp only [flatC, List.flatMap_cons, clCells, List.set_cons_zero]
      rfl
    | succ j =>
      have ih := ih j (by simpa using h)
      simp only [flatC, List.flatMap_cons, List.set_cons_succ] at ih ⊢
      rw [← ih]
      have e : ∀ (x : List Value) (q : Nat) (u : Value), (clCells a ++ x).set ((j + 1) * 6 + q) u = clCells a ++ x.set (j * 6 + q) u := by
        intro x q u
        rw [List.set_append_right _ _ (by simp [clCells]; omega), show (j + 1) * 6 + q - (clCells a).length = j * 6 + q by simp [clCells]; omega]
      have e0 := e (l.flatMap clCells) 0 (.int .i32 c.r)
      simp only [Nat.add_zero] at e0
      rw [e0, e, e, e, e, e]
/-- A slice that reads as these cells. -/
def ClsAt (W : World) (A : Option Addr) (L : List Cl) : Prop := RowOf W 6 clCells A L
theorem ClsAt.at {W : World} {A : Option Addr} {L : List Cl} (h : ClsAt W A L) {j : Nat} {c : Cl} (hj : L[j]? = some c) :
    ∃ b o, A = some ⟨b, o, none⟩ ∧ b < W.heap.size ∧ W.cell? ⟨b, o + j * 6, none⟩ = some (.int .i32 c.r) ∧ W.cell? ⟨b, o + j * 6 + 1, none⟩ = some (.int .i64 c.w) ∧ W.cell? ⟨b, o + j * 6 + 2, none⟩ = some (.int .i64 c.fg) ∧ W.cell? ⟨b, o + j * 6 + 3, none⟩ = some (.bool c.bo) ∧ W.cell? ⟨b, o + j * 6 + 4, none⟩ = some (.bool c.un) ∧ W.cell? ⟨b, o + j * 6 + 5, none⟩ = some (.bool c.iv) := by
  obtain ⟨b, o, e, hlt, hc⟩ := h j c hj
  exact ⟨b, o, e, hlt, hc 0 _ rfl, hc 1 _ rfl, hc 2 _ rfl, hc 3 _ rfl, hc 4 _ rfl, hc 5 _ rfl⟩
/-- A part of such a slice. -/
theorem ClsAt.sub {W : World} {b o : Nat} {L : List Cl} (h : ClsAt W (some ⟨b, o, none⟩) L) (k n : Nat) : ClsAt W (some ⟨b, o + k * 6, none⟩) ((L.drop k).take n) := by
  intro j c hj
  have hj2 : L[k + j]? = some c := by
    by_cases hn : j < n
    · rw [List.getElem?_take_of_lt hn, List.getElem?_drop] at hj; exact hj
    · rw [List.getElem?_take_eq_none (by omega)] at hj; cases hj
  obtain ⟨b', o', e, hlt, hc⟩ := h _ c hj2
  injection e with e; injection e with e1 e2
  subst e1 e2
  refine ⟨b, o + k * 6, rfl, hlt, fun i u hu => ?_⟩
  have := hc i u hu
  rw [show o + k * 6 + j * 6 + i = o + (k + j) * 6 + i by omega]
  exact this
/-- A slice of cells that the call made. -/
def OwnC (W : World) (B : Nat) (v : Value) (L : List Cl) : Prop := W.ownsRow B 52 6 v L.length (flatC L)
theorem OwnC.below {w W : World} {B : Nat} {v : Value} {L : List Cl} (h : OwnC w B v L) (hb : Below w.heap.size w W) : OwnC W B v L := by
  refine ⟨h.1, ?_⟩
  rcases h.2 with h0 | ⟨g, cap, cur, rfl, hg, hh, q⟩
  · exact .inl h0
  · exact .inr ⟨g, cap, cur, rfl, hg, (hb.block g (Array.getElem?_eq_some_iff.1 hh).1).trans hh, q⟩
theorem OwnC.form {W : World} {B : Nat} {v : Value} {L : List Cl} (h : OwnC W B v L) : ∃ A c, v = .slice A L.length c ∧ L.length ≤ c := by
  rcases h.2 with ⟨rfl, h0⟩ | ⟨g, cap, cur, rfl, hg, hh, q, _⟩
  · exact ⟨_, _, by rw [h0], by omega⟩
  · exact ⟨_, _, rfl, q⟩
theorem OwnC.formN {W : World} {B : Nat} {v : Value} {L : List Cl} (h : OwnC W B v L) (h0 : 0 < L.length) : ∃ g c, v = .slice (some ⟨g, 0, none⟩) L.length c ∧ L.length ≤ c ∧ B ≤ g := by
  rcases h.2 with ⟨rfl, h1⟩ | ⟨g, cap, cur, rfl, hg, hh, q, _⟩
  · omega
  · exact ⟨g, cap, rfl, q, hg⟩
theorem OwnC.cls {W : World} {B : Nat} {A : Option Addr} {n c : Nat} {L : List Cl} (h : OwnC W B (.slice A n c) L) : ClsAt W A L := by
  intro j x hj
  have hlt := (List.getElem?_eq_some_iff.1 hj).1
  have h2 := h
  rcases h.2 with ⟨e, h0⟩ | ⟨g, cap, cur, e, hg, hh, q⟩
  · omega
  · injection e with e1 e2 e3
    subst e1 e2 e3
    refine ⟨g, 0, rfl, (Array.getElem?_eq_some_iff.1 hh).1, fun i u hu => ?_⟩
    have hi : i < 6 := by have := (List.getElem?_eq_some_iff.1 hu).1; simpa [clCells] using this
    have := World.ownsRow.cellAt h2 (j * 6 + i) (by omega)
    rw [Nat.zero_add, this, flatC_at L j x hj i hi, hu]
theorem OwnC.set {W : World} {B g c : Nat} {L : List Cl} (h : OwnC W B (.slice (some ⟨g, 0, none⟩) L.length c) L) {j : Nat} (hj : j < L.length) (x : Cl) :
    OwnC ((((((W.setCell ⟨g, j * 6, none⟩ (.int .i32 x.r)).setCell ⟨g, j * 6 + 1, none⟩ (.int .i64 x.w)).setCell ⟨g, j * 6 + 2, none⟩ (.int .i64 x.fg)).setCell ⟨g, j * 6 + 3, none⟩ (.bool x.bo)).setCell ⟨g, j * 6 + 4, none⟩ (.bool x.un)).setCell ⟨g, j * 6 + 5, none⟩ (.bool x.iv)) B (.slice (some ⟨g, 0, none⟩) L.length c) (L.set j x) := by
  have h6 := ((((((h.stored (j * 6) (.int .i32 x.r)).1.stored (j * 6 + 1) (.int .i64 x.w)).1.stored (j * 6 + 2) (.int .i64 x.fg)).1.stored (j * 6 + 3) (.bool x.bo)).1.stored (j * 6 + 4) (.bool x.un)).1.stored (j * 6 + 5) (.bool x.iv)).1
  rw [flatC_set L j x hj] at h6
  unfold OwnC
  rw [List.length_set]
  exact h6
/-- Only a block of the call's own has changed, and new ones. -/
theorem grown6 (W : World) (g a b c d e f : Nat) (x y z u v t : Value) : W.grownBy ((((((W.setCell ⟨g, a, none⟩ x).setCell ⟨g, b, none⟩ y).setCell ⟨g, c, none⟩ z).setCell ⟨g, d, none⟩ u).setCell ⟨g, e, none⟩ v).setCell ⟨g, f, none⟩ t) (some g) := by
  have S : ∀ (w : World) (o : Nat) (q : Value), w.grownBy (w.setCell ⟨g, o, none⟩ q) (some g) := by
    intro w o q
    have h2 : (w.setCell ⟨g, o, none⟩ q).heap.size = w.heap.size := by unfold World.setCell; simp
    exact ⟨rfl, rfl, rfl, by omega, fun k _ hne => Below.heap_setCell w _ _ k (fun e => hne (by rw [e]))⟩
  exact ((((((S _ _ _).trans (S _ _ _)).trans (S _ _ _)).trans (S _ _ _)).trans (S _ _ _)).trans (S _ _ _))
/-- A frame, as a value. -/
def frV (f : Fr) (A : Option Addr) (n cap : Nat) : Value := .agg #[.int .i64 f.rows, .int .i64 f.cols, .slice A n cap, .int .i64 f.row, .int .i64 f.col]
def FrAt (W : World) (v : Value) (f : Fr) : Prop := ∃ A cap, v = frV f A f.cs.length cap ∧ f.cs.length ≤ cap ∧ cap ≤ maxLen ∧ ClsAt W A f.cs
theorem FrAt.below {w W : World} {v : Value} {f : Fr} (h : FrAt w v f) (hb : Below w.heap.size w W) : FrAt W v f := by
  obtain ⟨A, cap, e, h1, h2, h3⟩ := h
  exact ⟨A, cap, e, h1, h2, h3.below hb⟩
theorem FrAt.nil (W : World) : FrAt W (frV noF none 0 0) noF := ⟨none, 0, rfl, by simp [noF], by unfold maxLen; omega, fun j x h => by simp [noF] at h⟩
/-- The blank, in its block. -/
def BTab (W : World) : Prop := W.cell? ⟨0, 0, none⟩ = some (.int .i32 32) ∧ W.cell? ⟨0, 1, none⟩ = some (.int .i64 1) ∧ W.cell? ⟨0, 2, none⟩ = some (.int .i64 0) ∧ W.cell? ⟨0, 3, none⟩ = some (.bool false) ∧ W.cell? ⟨0, 4, none⟩ = some (.bool false) ∧ W.cell? ⟨0, 5, none⟩ = some (.bool false)
theorem kcG {W W' : World} {b o : Nat} {u : Value} (hb : Below W.heap.size W W') (h : W.cell? ⟨b, o, none⟩ = some u) : W'.cell? ⟨b, o, none⟩ = some u := (hb.cell (p := ⟨b, o, none⟩) (World.block_lt_of_cell? _ _ h)).trans h
theorem BTab.below {w W : World} (h : BTab w) (hb : Below w.heap.size w W) : BTab W := ⟨kcG hb h.1, kcG hb h.2.1, kcG hb h.2.2.1, kcG hb h.2.2.2.1, kcG hb h.2.2.2.2.1, kcG hb h.2.2.2.2.2⟩
end Go.Proofs.YtojjdckpbmjjdaaDoor
