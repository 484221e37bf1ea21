/- Contract of grids.wipe. -/
import Derived.Test.YtojjdckpbmjjdaaDoorGrcopy
namespace Go.Proofs.YtojjdckpbmjjdaaDoor
open Go.RowKit

/-- Behind a store of a cell in the row of the call's own. -/
theorem own_set6 {W : World} {B g n c : Nat} {L : List Cl} (h : OwnC W B (.slice (some ⟨g, 0, none⟩) n c) L) (hn : L.length = n) {j : Nat} (hj : j < n) (x : Cl) :
    OwnC ((((((W.setCell ⟨g, j * 6, none⟩ (.int .i32 x.r)).setCell ⟨g, j * 6 + 1, none⟩ (.int .i64 x.w)).setCell ⟨g, j * 6 + 2, none⟩ (.int .i64 x.fg)).setCell ⟨g, j * 6 + 3, none⟩ (.bool x.bo)).setCell ⟨g, j * 6 + 4, none⟩ (.bool x.un)).setCell ⟨g, j * 6 + 5, none⟩ (.bool x.iv)) B (.slice (some ⟨g, 0, none⟩) n c) (L.set j x) := by
  subst hn; exact h.set hj x
theorem OwnC.base {W : World} {B g n c : Nat} {L : List Cl} (h : OwnC W B (.slice (some ⟨g, 0, none⟩) n c) L) : B ≤ g := by
  rcases h.2 with ⟨e, h0⟩ | ⟨g', cap, cur, e, hg, r⟩
  · cases e
  · injection e with e; injection e with e; injection e with e; subst e; exact hg
theorem OwnC.frozen {W : World} {B g n c : Nat} {L : List Cl} (h : OwnC W B (.slice (some ⟨g, 0, none⟩) n c) L) (i : Nat) : W.frozen? ⟨g, i, none⟩ = false := by
  rcases h.2 with ⟨e, h0⟩ | ⟨g', cap, cur, e, hg, hh, r⟩
  · cases e
  · injection e with e; injection e with e; injection e with e; subst e
    simp [World.frozen?, hh]
/-- Only this block has changed, and new ones: what lies elsewhere stands. -/
theorem BTab.keep {W W' : World} {g : Nat} (h : BTab W) (hg : W.grownBy W' (some g)) (hne : g ≠ 0) : BTab W' := by
  have k : ∀ {o : Nat} {u : Value}, W.cell? ⟨0, o, none⟩ = some u → W'.cell? ⟨0, o, none⟩ = some u := fun {o u} e => by
    have hlt := World.block_lt_of_cell? _ _ e
    have hb := hg.block _ hlt (fun e => hne (Option.some.inj e).symm)
    rw [← e]
    simp [World.cell?, hb]
  exact ⟨k h.1, k h.2.1, k h.2.2.1, k h.2.2.2.1, k h.2.2.2.2.1, k h.2.2.2.2.2⟩
theorem wipe_1 {L : List Cl} {i : Nat} {c : Cl} (h : L[i]? = some c) (h2 : ¬ c.w = 2) (h0 : ¬ c.w = 0) : wipeL L i = L.set i blankC := by
  unfold wipeL; rw [getD_some h, if_neg h2, if_neg h0]
theorem wipe_2 {L : List Cl} {i : Nat} {c : Cl} (h : L[i]? = some c) (h2 : c.w = 2) : wipeL L i = (L.set (i + 1) blankC).set i blankC := by
  unfold wipeL; rw [getD_some h, if_pos h2]
theorem wipe_0 {L : List Cl} {i : Nat} {c : Cl} (h : L[i]? = some c) (h0 : c.w = 0) : wipeL L i = (L.set (i - 1) blankC).set i blankC := by
  unfold wipeL; rw [getD_some h, if_neg (by omega), if_pos h0]
set_option maxRecDepth 100000 in
set_option maxHeartbeats 2000000 in
theorem wipe_any (g n c B i : Nat) (L : List Cl) (x : Cl) (w : World) (h : OwnC w B (.slice (some ⟨g, 0, none⟩) n c) L) (hn : L.length = n) (hc : n ≤ 20000) (hT : BTab w) (hB : 0 < B) (hx : L[i]? = some x)
    (h2 : x.w = 2 → i + 1 < n) (h0 : x.w = 0 → 1 ≤ i) :
    Calls Tryd.prog 35 #[.slice (some ⟨g, 0, none⟩) n c, .int .i64 i] w fun e w' => e = .returned (.tuple #[]) ∧ OwnC w' B (.slice (some ⟨g, 0, none⟩) n c) (wipeL L i) ∧ w.grownBy w' (some g) := by
  have hi : i < n := by rw [← hn]; exact (List.getElem?_eq_some_iff.1 hx).1
  have hBg := h.base
  have hg : ¬ g = 0 := by omega
  have hg' : ¬ 0 = g := by omega
  obtain ⟨t0, t1, t2, t3, t4, t5⟩ := hT
  obtain ⟨x0, x1, x2, x3, x4, x5⟩ := h.cls.get hx
  simp only [Nat.zero_add] at x0 x1 x2 x3 x4 x5
  have hf := fun i => h.frozen i
  have H := hide h
  have HX := hide hx
  have HN := hide hn
  clear h hx hn
  obtain ⟨r, wd, fg, bo, un, iv⟩ := x
  dsimp only at x0 x1 x2 x3 x4 x5 h2 h0
  by_cases hw2 : wd = 2
  · have HE := hide (wipe_2 HX.out hw2)
    have hi1 := h2 hw2
    have hi2 : (i : Int) + 1 < (n : Int) := by omega
    obtain ⟨d, hd⟩ : ∃ d, L[i + 1]? = some d := ⟨_, List.getElem?_eq_getElem (show i + 1 < L.length by rw [HN.out]; exact hi1)⟩
    obtain ⟨y0, y1, y2, y3, y4, y5⟩ := H.out.cls.get hd
    simp only [Nat.zero_add] at y0 y1 y2 y3 y4 y5
    clear hd
    subst hw2
    clear h2 h0
    go_enter Tryd.func35, Tryd.ntmps35
    go_wp2
    go_end0
    exact ⟨rfl, by rw [HE.out]; exact own_set6 (own_set6 H.out HN.out hi1 blankC) (by simp [HN.out]) hi blankC, (grown6 _ _ _ _ _ _ _ _ _ _ _ _ _ _).trans (grown6 _ _ _ _ _ _ _ _ _ _ _ _ _ _)⟩
  by_cases hw0 : wd = 0
  · have HE := hide (wipe_0 HX.out hw0)
    have hi0 := h0 hw0
    obtain ⟨j, rfl⟩ : ∃ j, i = j + 1 := ⟨i - 1, by omega⟩
    rw [Nat.add_sub_cancel] at HE
    have hj : j < n := by omega
    have hj2 : (j : Int) < (n : Int) := by omega
    obtain ⟨d, hd⟩ : ∃ d, L[j]? = some d := ⟨_, List.getElem?_eq_getElem (show j < L.length by rw [HN.out]; exact hj)⟩
    obtain ⟨y0, y1, y2, y3, y4, y5⟩ := H.out.cls.get hd
    simp only [Nat.zero_add] at y0 y1 y2 y3 y4 y5
    clear hd h2 h0 hi0
    subst hw0
    go_enter Tryd.func35, Tryd.ntmps35
    go_wp2
    go_end0
    exact ⟨rfl, by rw [HE.out]; exact own_set6 (own_set6 H.out HN.out hj blankC) (by simp [HN.out]) hi blankC, (grown6 _ _ _ _ _ _ _ _ _ _ _ _ _ _).trans (grown6 _ _ _ _ _ _ _ _ _ _ _ _ _ _)⟩
  · have HE := hide (wipe_1 HX.out hw2 hw0)
    clear h2 h0
    go_enter Tryd.func35, Tryd.ntmps35
    go_wp2
    go_end0
    exact ⟨rfl, by rw [HE.out]; exact own_set6 H.out HN.out hi blankC, grown6 _ _ _ _ _ _ _ _ _ _ _ _ _ _⟩
end Go.Proofs.YtojjdckpbmjjdaaDoor
