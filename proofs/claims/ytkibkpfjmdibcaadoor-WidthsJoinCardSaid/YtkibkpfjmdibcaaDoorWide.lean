/- limnerlaw02.wide: the chapter's examples. -/
import Derived.Test.YtkibkpfjmdibcaaDoorWtext
import Derived.KernelRfl
namespace Go.Proofs.YtkibkpfjmdibcaaDoor
open Go.RowKit

theorem ex0 : cells 97 = 1 := by decide +kernel
theorem ex1 : cells 26085 = 2 := by decide +kernel
theorem ex2 : cells 9 = 0 := by decide +kernel
theorem ex3 : cells 769 = 0 := by decide +kernel
theorem ex4 : shown 9 = 65533 := by decide +kernel
theorem ex5 : shown 26085 = 26085 := by decide +kernel
theorem ex6 : tabs 0 = 8 := by decide +kernel
theorem ex7 : tabs 7 = 1 := by decide +kernel
theorem ex8 : tabs 8 = 8 := by decide +kernel
theorem ex9 : tabs (-1) = 8 := by decide +kernel
def exs : ByteArray := ⟨#[97, 230, 151, 165, 204, 129, 255]⟩
theorem exText : textW ⟨#[97, 230, 151, 165, 204, 129, 255]⟩ = 5 := by decide +kernel

set_option maxHeartbeats 1000000 in
theorem wide_any (w : World) (hW : WTabs w) (hU : UTabs w) : Calls Tryd.prog 14 #[] w fun e w' => e = .returned (.bool true) ∧ Below w.heap.size w w' := by
  have HW := hide hW
  have HU := hide hU
  have B0 := hide (Below.refl w.heap.size w)
  clear hW hU
  go_enter Tryd.func14, Tryd.ntmps14
  go_wp2_with fail
  refine (wof_any 97 _ (HW.out.below B0.out)).mono ?_
  rw [ex0]
  rintro e w1 ⟨rfl, hb⟩
  have B1 := hide (B0.out.trans (hb.mono B0.out.size))
  clear hb
  go_wp2_with fail
  refine (wof_any 26085 _ (HW.out.below B1.out)).mono ?_
  rw [ex1]
  rintro e w2 ⟨rfl, hb⟩
  have B2 := hide (B1.out.trans (hb.mono B1.out.size))
  clear hb
  go_wp2_with fail
  refine (wof_any 9 _ (HW.out.below B2.out)).mono ?_
  rw [ex2]
  rintro e w3 ⟨rfl, hb⟩
  have B3 := hide (B2.out.trans (hb.mono B2.out.size))
  clear hb
  go_wp2_with fail
  refine (wof_any 769 _ (HW.out.below B3.out)).mono ?_
  rw [ex3]
  rintro e w4 ⟨rfl, hb⟩
  have B4 := hide (B3.out.trans (hb.mono B3.out.size))
  clear hb
  go_wp2_with fail
  refine (wshown_any 9 _ (HW.out.below B4.out)).mono ?_
  rw [ex4]
  rintro e w5 ⟨rfl, hb⟩
  have B5 := hide (B4.out.trans (hb.mono B4.out.size))
  clear hb
  go_wp2_with fail
  refine (wshown_any 26085 _ (HW.out.below B5.out)).mono ?_
  rw [ex5]
  rintro e w6 ⟨rfl, hb⟩
  have B6 := hide (B5.out.trans (hb.mono B5.out.size))
  clear hb
  go_wp2_with fail
  refine (wtab_any 0 _).mono ?_
  rw [ex6]
  rintro e w' ⟨rfl, rfl⟩
  go_wp2_with fail
  refine (wtab_any 7 _).mono ?_
  rw [ex7]
  rintro e w' ⟨rfl, rfl⟩
  go_wp2_with fail
  refine (wtab_any 8 _).mono ?_
  rw [ex8]
  rintro e w' ⟨rfl, rfl⟩
  go_wp2_with fail
  refine (wtab_any (-1) _).mono ?_
  rw [ex9]
  rintro e w' ⟨rfl, rfl⟩
  go_wp2_with fail
  refine (text_any ⟨#[97, 230, 151, 165, 204, 129, 255]⟩ _ (by decide) (HW.out.below B6.out) (HU.out.below B6.out)).mono ?_
  rw [exText]
  rintro e wl ⟨rfl, hb⟩
  have BL := hide (B6.out.trans (hb.mono B6.out.size))
  clear hb
  go_wp2_with fail
  go_ret
  exact ⟨rfl, BL.out⟩
end Go.Proofs.YtkibkpfjmdibcaaDoor
