/- Contracts of widths.in and widths.Of. -/
import Derived.Test.YtiilgeinkocanaaDoorWplain
import Derived.Test.YtiilgeinkocanaaDoorShelf
import Derived.Test.YtiilgeinkocanaaDoorPut
import Derived.Deep.QuietTactic
import Derived.BigQuiet
namespace Go.Proofs.YtiilgeinkocanaaDoor
open Go.RowKit Go.Shelf Go.Lib Go.Sort

/-- The array of runs in block g reads as l. -/
def RunsAt (g : Nat) (l : List (Int × Int)) (w : World) : Prop :=
  ∀ j, j < l.length → w.cell? ⟨g, j * 2, none⟩ = some (.int .i32 (l[j]?.getD (0, 0)).1) ∧ w.cell? ⟨g, j * 2 + 1, none⟩ = some (.int .i32 (l[j]?.getD (0, 0)).2)
theorem RunsAt.keep {g : Nat} {l : List (Int × Int)} {w W : World} (h : RunsAt g l w) (hk : ∀ o v, w.cell? ⟨g, o, none⟩ = some v → W.cell? ⟨g, o, none⟩ = some v) : RunsAt g l W := fun j hj => ⟨hk _ _ (h j hj).1, hk _ _ (h j hj).2⟩
theorem RunsAt.below {g : Nat} {l : List (Int × Int)} {w W : World} (h : RunsAt g l w) (hb : Below w.heap.size w W) : RunsAt g l W :=
  h.keep fun o v hv => (hb.cell (p := ⟨g, o, none⟩) (World.block_lt_of_cell? _ _ hv)).trans hv

theorem below_drewN {B : Nat} {a w : World} (h : Below B a w) (n : Nat) : Below B a (w.drewN n) := ⟨h.os, h.tape, h.output, h.size, h.block⟩
theorem in_ret {a b : Bool} (h : a = b) : Ending.returned (.bool a) = .returned (.bool b) := by rw [h]

set_option maxHeartbeats 2000000 in
theorem in_closure (bl br g cap : Nat) (l : List (Int × Int)) (r : Int) (i : Nat) (W : World) (hi : i < l.length)
    (hl : W.cell? ⟨bl, 0, none⟩ = some (.slice (some ⟨g, 0, none⟩) l.length cap)) (hr : W.cell? ⟨br, 0, none⟩ = some (.int .i32 r)) (hc : W.cell? ⟨g, i * 2 + 1, none⟩ = some (.int .i32 (l[i]?.getD (0, 0)).2)) :
    Calls Tryd.prog 73 (#[.int .i64 i] ++ #[.pointer (some ⟨bl, 0, none⟩), .pointer (some ⟨br, 0, none⟩)]) W fun e w' => e = .returned (.bool (decide (r ≤ (l[i]?.getD (0, 0)).2))) ∧ ∃ q, w' = W.drewN q := by
  generalize (l[i]?.getD (0, 0)).2 = y at hc ⊢
  have hiz : (i : Int) < (l.length : Int) := by omega
  go_enter Tryd.func73, Tryd.ntmps73
  go_wp2
  go_region
  all_goals go_wp2
  all_goals go_ret
  all_goals exact ⟨by first | rfl | simp, 1, rfl⟩

set_option maxRecDepth 100000 in
set_option maxHeartbeats 2000000 in
theorem in_any (g cap : Nat) (l : List (Int × Int)) (r : Int) (w : World) (h : RunsAt g l w) (hg : g < w.heap.size) (hR : Rise l) (hsz : l.length ≤ 1000) :
    Calls Tryd.prog 69 #[.slice (some ⟨g, 0, none⟩) l.length cap, .int .i32 r] w fun e w' => e = .returned (.bool (among l r)) ∧ Below w.heap.size w w' := by
  obtain ⟨W0, hW0⟩ : ∃ W0, W0 = (w.alloc (.cells #[.slice (some ⟨g, 0, none⟩) l.length cap] 92)).alloc (.cells #[.int .i32 r] 21) := ⟨_, rfl⟩
  have hsize : W0.heap.size = w.heap.size + 1 + 1 := by rw [hW0]; simp
  have ca : W0.cell? ⟨w.heap.size, 0, none⟩ = some (.slice (some ⟨g, 0, none⟩) l.length cap) := by rw [hW0]; exact Go.Proofs.cell_alloc_sl _ (Go.Proofs.cell_new_sl w _ _)
  have cx : W0.cell? ⟨w.heap.size + 1, 0, none⟩ = some (.int .i32 r) := by rw [hW0]; have := Go.Proofs.cell_new_sl (w.alloc (.cells #[.slice (some ⟨g, 0, none⟩) l.length cap] 92)) (.int .i32 r) 21; rwa [World.size_alloc] at this
  have hR0 : RunsAt g l W0 := h.keep fun o v hv => by rw [hW0]; exact Go.Proofs.cell_alloc_sl _ (Go.Proofs.cell_alloc_sl _ hv)
  have eg : ∀ args w, (callFunc 73 args).run Tryd.prog w = .ok (.enter 73 args) w := enters_of Tryd.func73 (by kernel_rfl) rfl
  have hS := Go.Proofs.Any.sort_Search Tryd.laysSearch 73 #[.pointer (some ⟨w.heap.size, 0, none⟩), .pointer (some ⟨w.heap.size + 1, 0, none⟩)] l.length (fun i => decide (r ≤ (l[i]?.getD (0, 0)).2)) W0 eg (by omega)
    (fun m os i hi => (in_closure w.heap.size (w.heap.size + 1) g cap l r i _ hi (cell_grown (by simp [hsize]; omega) ca m os) (cell_grown (by simp [hsize]) cx m os) (cell_grown (by simp [hsize]; omega) (hR0 i hi).2 m os)).mono
      fun _ _ ⟨he, q, hq⟩ => ⟨he, q, #[], by rw [hq, grow_empty]⟩) (place_mono hR r)
  change Calls Tryd.prog 72 _ _ _ at hS
  have hS2 : Calls Tryd.prog 72 #[.int .i64 l.length, .func (.func 73) #[] #[.pointer (some ⟨w.heap.size, 0, none⟩), .pointer (some ⟨w.heap.size + 1, 0, none⟩)]] W0 fun e w' => e = .returned (.int .i64 (place l r)) ∧ Below W0.heap.size W0 w' :=
    hS.mono fun e w' ⟨he, q, os, hw⟩ => ⟨he, by rw [hw]; exact Go.Proofs.below_grown_sl _ _ _ _ (Nat.le_refl _)⟩
  clear hS eg
  have hB0 : Below w.heap.size w W0 := by rw [hW0]; exact ((Below.refl _ w).alloc (Nat.le_refl _) _).alloc (by simp) _
  have HA := hide (among_place l r hR)
  have HS := hide hS2
  clear hS2 h
  go_enter Tryd.func69, Tryd.ntmps69
  go_wp2_with (go_at_call 72; rw [← hW0]; refine HS.out.mono ?_; rintro e w1 ⟨rfl, hb1⟩)
  have HR1 := hide (hR0.below hb1)
  have da := (hb1.cell (p := ⟨w.heap.size, 0, none⟩) (by rw [hsize]; show w.heap.size < _; omega)).trans ca
  have dx := (hb1.cell (p := ⟨w.heap.size + 1, 0, none⟩) (by rw [hsize]; show w.heap.size + 1 < _; omega)).trans cx
  have HB := hide (hB0.trans (hb1.mono (by omega)))
  clear hW0 hb1 ca cx hR0 hB0
  have hpl := place_le l r
  by_cases hp : place l r < l.length
  · have hc := (HR1.out _ hp).1
    generalize place l r = k at *
    have hz : (k : Int) < (l.length : Int) := by omega
    go_quiet (fail)
    go_wp2
    go_ret
    exact ⟨in_ret (by rw [← HA.out]; simp [hp]), below_drewN HB.out _⟩
  · generalize place l r = k at *
    have hz : decide ((k : Int) < (l.length : Int)) = false := by simp; omega
    go_quiet (fail)
    go_wp2
    go_ret
    exact ⟨in_ret (by rw [← HA.out, decide_eq_false hp, Bool.false_and]), below_drewN HB.out _⟩

/-- The tables of package widths, in their blocks. -/
def WTabs (w : World) : Prop := RunsAt 0 hid w ∧ RunsAt 1 wid w
theorem WTabs.below {w W : World} (h : WTabs w) (hb : Below w.heap.size w W) : WTabs W := ⟨h.1.below hb, h.2.below hb⟩
theorem WTabs.lt {w : World} (h : WTabs w) : 0 < w.heap.size ∧ 1 < w.heap.size :=
  ⟨World.block_lt_of_cell? _ _ (h.1 0 (by decide)).1, World.block_lt_of_cell? _ _ (h.2 0 (by decide)).1⟩

theorem ret_shown {a b : Int} (h : a = b) : Ending.returned (.int .i32 a) = .returned (.int .i32 b) := by rw [h]
theorem ret_cells {a b : Int} (h : a = b) : Ending.returned (.int .i64 a) = .returned (.int .i64 b) := by rw [h]

set_option maxHeartbeats 400000 in
theorem wof_any (r : Int) (w : World) (hT : WTabs w) :
    Calls Tryd.prog 61 #[.int .i32 r] w fun e w' => e = .returned (.int .i64 (cells r)) ∧ Below w.heap.size w w' := by
  have HT := hide hT
  clear hT
  go_enter Tryd.func61, Tryd.ntmps61
  by_cases h0 : r < 0
  · go_wp2
    go_ret
    exact ⟨ret_cells (by rw [cells, if_pos (.inl h0)]), Below.refl _ _⟩
  by_cases h1 : 1114111 < r
  · go_wp2
    go_ret
    exact ⟨ret_cells (by rw [cells, if_pos (.inr (.inl h1))]), Below.refl _ _⟩
  cases hh : among hid r
  · cases hw : among wid r
    · have HH := hide hh
      have HW := hide hw
      clear hh hw
      go_wp2_with fail
      refine (in_any 0 8 hid r _ HT.out.1 HT.out.lt.1 rise_hid (by decide)).mono ?_
      rw [HH.out]
      rintro e w1 ⟨rfl, hb1⟩
      go_wp2_with fail
      refine (in_any 1 14 wid r _ (HT.out.below hb1).2 (HT.out.below hb1).lt.2 rise_wid (by decide)).mono ?_
      rw [HW.out]
      rintro e w2 ⟨rfl, hb2⟩
      go_wp2
      go_ret
      exact ⟨ret_cells (by rw [cells, if_neg (by rw [HH.out]; simp; omega), HW.out]; rfl), hb1.trans (hb2.mono hb1.size)⟩
    · have HH := hide hh
      have HW := hide hw
      clear hh hw
      go_wp2_with fail
      refine (in_any 0 8 hid r _ HT.out.1 HT.out.lt.1 rise_hid (by decide)).mono ?_
      rw [HH.out]
      rintro e w1 ⟨rfl, hb1⟩
      go_wp2_with fail
      refine (in_any 1 14 wid r _ (HT.out.below hb1).2 (HT.out.below hb1).lt.2 rise_wid (by decide)).mono ?_
      rw [HW.out]
      rintro e w2 ⟨rfl, hb2⟩
      go_wp2
      go_ret
      exact ⟨ret_cells (by rw [cells, if_neg (by rw [HH.out]; simp; omega), HW.out]; rfl), hb1.trans (hb2.mono hb1.size)⟩
  · have HH := hide hh
    clear hh
    go_wp2_with fail
    refine (in_any 0 8 hid r _ HT.out.1 HT.out.lt.1 rise_hid (by decide)).mono ?_
    rw [HH.out]
    rintro e w1 ⟨rfl, hb1⟩
    go_wp2
    go_ret
    exact ⟨ret_cells (by rw [cells, if_pos (.inr (.inr HH.out))]), hb1⟩
end Go.Proofs.YtiilgeinkocanaaDoor
