/- Plain: a painted frame; the chapter's frame. No program in sight. -/
import Derived.Test.YtojjdckpbmjjdaaDoorGrows
namespace Go.Proofs.YtojjdckpbmjjdaaDoor

/-- A rune that is put into a frame. -/
structure Ik where
  row : Int
  col : Int
  r : Int
  fg : Int
  bo : Bool
  un : Bool
  iv : Bool
structure Pt where
  rows : Int
  cols : Int
  ink : List Ik
  row : Int
  col : Int
def ikC (x : Ik) : Cl := ⟨x.r, 0, x.fg, x.bo, x.un, x.iv⟩
/-- What stays of a number, from zero on. -/
def nm (x m : Int) : Int := Int.tmod (Int.tmod x m + m) m
theorem nm_bd (x : Int) {m : Int} (h : 0 < m) : 0 ≤ nm x m ∧ nm x m < m := by
  unfold nm
  have h1 := Int.tmod_lt_of_pos x h
  have h2 : -m < Int.tmod x m := by
    have := Int.lt_tmod_of_pos x h
    omega
  have h3 : 0 ≤ Int.tmod x m + m := by omega
  rw [Int.tmod_eq_emod_of_nonneg h3]
  exact ⟨Int.emod_nonneg _ (by omega), Int.emod_lt_of_pos _ h⟩
def paintTo (p : Pt) : Nat → Fr
  | 0 => newF (2 + nm p.rows 9) (8 + nm p.cols 13)
  | i + 1 => match p.ink[i]? with
    | some x => putF (paintTo p i) x.row x.col (ikC x)
    | none => paintTo p i
def paintF (p : Pt) : Fr := { paintTo p p.ink.length with row := nm p.row (2 + nm p.rows 9), col := nm p.col (8 + nm p.cols 13) }
theorem paint_may (p : Pt) : mayB (2 + nm p.rows 9) (8 + nm p.cols 13) = true := by
  have h1 := nm_bd p.rows (m := 9) (by omega)
  have h2 := nm_bd p.cols (m := 13) (by omega)
  unfold mayB
  rw [decide_eq_true_eq]
  omega
theorem putF_size {f : Fr} (h : validF f = true) (row col : Int) (x : Cl) : (putF f row col x).rows = f.rows ∧ (putF f row col x).cols = f.cols ∧ (putF f row col x).row = f.row ∧ (putF f row col x).col = f.col := by
  unfold putF
  rw [if_pos h]
  split
  · exact ⟨rfl, rfl, rfl, rfl⟩
  · exact ⟨rfl, rfl, rfl, rfl⟩
theorem paintTo_valid (p : Pt) : ∀ i, validF (paintTo p i) = true ∧ (paintTo p i).rows = 2 + nm p.rows 9 ∧ (paintTo p i).cols = 8 + nm p.cols 13
  | 0 => by
    refine ⟨newF_valid (paint_may p), ?_, ?_⟩
    · unfold paintTo newF; rw [if_pos (paint_may p)]
    · unfold paintTo newF; rw [if_pos (paint_may p)]
  | i + 1 => by
    obtain ⟨h1, h2, h3⟩ := paintTo_valid p i
    unfold paintTo
    cases p.ink[i]? with
    | none => exact ⟨h1, h2, h3⟩
    | some x =>
      obtain ⟨a, b, -⟩ := putF_size h1 x.row x.col (ikC x)
      exact ⟨putF_valid h1 _ _ _, a.trans h2, b.trans h3⟩
theorem paintTo_step {p : Pt} {i : Nat} {x : Ik} (h : p.ink[i]? = some x) : paintTo p (i + 1) = putF (paintTo p i) x.row x.col (ikC x) := by rw [paintTo, h]
theorem valid_cursor {f : Fr} (h : validF f = true) {row col : Int} (hr : 0 ≤ row ∧ row < f.rows) (hc : 0 ≤ col ∧ col < f.cols) : validF { f with row := row, col := col } = true := by
  obtain ⟨R, C, hR, hC, h1, h2, h3, h4, hL, -, -, -, -, hv⟩ := valid_facts h
  obtain ⟨a, b, cs, d, e⟩ := f
  dsimp only at *
  subst hR hC
  exact frame_of h1 h2 h3 h4 hL ⟨hr.1, hr.2, hc.1, hc.2⟩ hv
theorem paintF_valid (p : Pt) : validF (paintF p) = true := by
  obtain ⟨h1, h2, h3⟩ := paintTo_valid p p.ink.length
  have a := nm_bd p.row (m := 2 + nm p.rows 9) (by have := nm_bd p.rows (m := 9) (by omega); omega)
  have b := nm_bd p.col (m := 8 + nm p.cols 13) (by have := nm_bd p.cols (m := 13) (by omega); omega)
  exact valid_cursor h1 (by rw [h2]; exact a) (by rw [h3]; exact b)
theorem paintF_size (p : Pt) : (paintF p).rows = 2 + nm p.rows 9 ∧ (paintF p).cols = 8 + nm p.cols 13 := (paintTo_valid p p.ink.length).2
/-- The chapter's frame. -/
def shG : Fr := putF (newF 2 8) 0 6 ⟨26085, 0, 1, false, false, false⟩
def shH : Fr := putF shG 0 7 ⟨97, 0, 0, false, false, false⟩
theorem sh_rows : rowsF shG = [⟨#[32, 32, 32, 32, 32, 32, 230, 151, 165]⟩, ⟨#[32, 32, 32, 32, 32, 32, 32, 32]⟩] := by decide +kernel
theorem sh_rows2 : rowsF shH = [⟨#[32, 32, 32, 32, 32, 32, 32, 97]⟩, ⟨#[32, 32, 32, 32, 32, 32, 32, 32]⟩] := by decide +kernel
theorem sh_diff : diffF shG shH = 2 := by decide +kernel
theorem sh_put1 : putF shG 0 7 ⟨26085, 0, 0, false, false, false⟩ = shG := by decide +kernel
theorem sh_put2 : putF shG 2 0 ⟨97, 0, 0, false, false, false⟩ = shG := by decide +kernel
theorem sh_valid : validF shG = true := by decide +kernel
theorem sh_new : newE 2 8 = 0 ∧ newE 1 8 = 2 := by decide +kernel
theorem sh_res : resE noF 2 8 = 2 := by decide +kernel
theorem sh_same : decide (shG = shH) = false := by decide +kernel
end Go.Proofs.YtojjdckpbmjjdaaDoor
