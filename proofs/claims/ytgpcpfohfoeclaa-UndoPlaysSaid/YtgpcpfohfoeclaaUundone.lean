/- limnerlaw05.undone: the chapter's examples. -/
import Derived.Test.YtgpcpfohfoeclaaUacts
namespace Go.Proofs.Ytgpcpfohfoeclaa
open Go.RowKit

theorem mk2 (s : ByteArray) (w : World) (hs : s.size ≤ 16384) : Calls Try.prog 9 #[.string s] w fun e w' => ∃ g, e = .returned (.pointer (some ⟨g, 0, none⟩)) ∧ TextAt w' (.pointer (some ⟨g, 0, none⟩)) (onePiece s) ∧ Below w.heap.size w w' := by
  refine (mk_any s w hs).mono ?_
  rintro e w' ⟨p, rfl, hp, hb⟩
  obtain ⟨g, hg⟩ : ∃ g, p = .pointer (some ⟨g, 0, none⟩) := by obtain ⟨b, v, e, _⟩ := hp; exact ⟨b, e⟩
  subst hg
  exact ⟨g, rfl, hp, hb⟩

set_option maxHeartbeats 4000000 in
set_option maxRecDepth 100000 in
theorem undone_any (w : World) : Calls Try.prog 7 #[] w fun e w' => e = .returned (.bool true) ∧ Below w.heap.size w w' := by
  have HB := hide (Below.refl w.heap.size w)
  go_enter Try.func7, Try.ntmps7
  go_wp2_with fail
  refine (mk2 ⟨#[97]⟩ _ (by decide)).mono ?_; rintro e w1 ⟨ga, rfl, t1, b1⟩
  replace HB := hide (HB.out.trans (b1.mono HB.out.size))
  have TA := hide t1
  clear t1 b1
  go_wp2_with fail
  refine (new_und w.heap.size (ga, 0, ⟨#[97]⟩) _ HB.out.size TA.out).mono ?_; rintro e w2 ⟨rfl, u1, b1⟩
  obtain ⟨u, hu⟩ : ∃ m, w1.heap.size = m := ⟨_, rfl⟩
  rw [hu] at u1 ⊢
  clear hu
  replace HB := hide (HB.out.trans (b1.mono HB.out.size))
  replace TA := hide (TA.out.below b1)
  have HU := hide u1
  clear u1 b1
  go_wp2_with fail
  refine (mk2 ⟨#[98]⟩ _ (by decide)).mono ?_; rintro e w1 ⟨gb, rfl, t1, b1⟩
  replace HB := hide (HB.out.trans (b1.mono HB.out.size))
  replace TA := hide (TA.out.below b1)
  replace HU := hide (HU.out.below b1)
  have TB := hide t1
  clear t1 b1
  go_wp2_with fail
  refine (Do_open w.heap.size u (ga, 0, ⟨#[97]⟩) (gb, 1, ⟨#[98]⟩) [] [] 0 0 _ HU.out HB.out.size (by decide) TB.out (by decide)).mono ?_; rintro e w1 ⟨rfl, u1, k1, b1⟩
  replace HB := hide (HB.out.trans b1)
  replace TA := hide (TA.out.kept k1)
  replace TB := hide (TB.out.kept k1)
  replace HU : Hid (Und w1 w.heap.size u (gb, 1, ⟨#[98]⟩) [(ga, 0, ⟨#[97]⟩)] [] 0) := hide (by simpa [show max (5 : Int) 0 = 5 from rfl] using u1)
  clear u1 k1 b1
  go_wp2_with fail
  refine (Undo_any w.heap.size u (gb, 1, ⟨#[98]⟩) (ga, 0, ⟨#[97]⟩) [] [] 0 _ HU.out HB.out.size (by decide) (by decide)).mono ?_; rintro e w1 ⟨rfl, u1, k1, b1⟩
  replace HB := hide (HB.out.trans b1)
  replace TA := hide (TA.out.kept k1)
  replace TB := hide (TB.out.kept k1)
  replace HU : Hid (Und w1 w.heap.size u (ga, 0, ⟨#[97]⟩) [] [(gb, 1, ⟨#[98]⟩)] 0) := hide (by simpa [show max (5 : Int) 0 = 5 from rfl] using u1)
  clear u1 k1 b1
  go_wp2_with fail
  refine (Redo_any w.heap.size u (ga, 0, ⟨#[97]⟩) (gb, 1, ⟨#[98]⟩) [] [] 0 _ HU.out HB.out.size (by decide) (by decide)).mono ?_; rintro e w1 ⟨rfl, u1, k1, b1⟩
  replace HB := hide (HB.out.trans b1)
  replace TA := hide (TA.out.kept k1)
  replace TB := hide (TB.out.kept k1)
  replace HU : Hid (Und w1 w.heap.size u (gb, 1, ⟨#[98]⟩) [(ga, 0, ⟨#[97]⟩)] [] 0) := hide (by simpa [show max (5 : Int) 0 = 5 from rfl] using u1)
  clear u1 k1 b1
  go_wp2_with fail
  refine (Redo_zero w.heap.size u (gb, 1, ⟨#[98]⟩) [(ga, 0, ⟨#[97]⟩)] 0 _ HU.out).mono ?_; rintro e w1 ⟨rfl, _, b1⟩
  replace HB := hide (HB.out.trans (b1.mono HB.out.size))
  replace TA := hide (TA.out.below b1)
  replace HU := hide (HU.out.below b1)
  replace TB := hide (TB.out.below b1)
  clear b1
  clear HU
  go_wp2_with fail
  refine (mk2 ⟨#[97]⟩ _ (by decide)).mono ?_; rintro e w1 ⟨gc, rfl, t1, b1⟩
  replace HB := hide (HB.out.trans (b1.mono HB.out.size))
  replace TA := hide (TA.out.below b1)
  replace TB := hide (TB.out.below b1)
  have TC := hide t1
  clear t1 b1
  go_wp2_with fail
  refine (new_und w.heap.size (gc, 0, ⟨#[97]⟩) _ HB.out.size TC.out).mono ?_; rintro e w2 ⟨rfl, u1, b1⟩
  obtain ⟨v, hv⟩ : ∃ m, w1.heap.size = m := ⟨_, rfl⟩
  rw [hv] at u1 ⊢
  clear hv
  replace HB := hide (HB.out.trans (b1.mono HB.out.size))
  replace TA := hide (TA.out.below b1)
  replace TB := hide (TB.out.below b1)
  replace TC := hide (TC.out.below b1)
  have HV := hide u1
  clear u1 b1
  go_wp2_with fail
  refine (mk2 ⟨#[98]⟩ _ (by decide)).mono ?_; rintro e w1 ⟨gd, rfl, t1, b1⟩
  replace HB := hide (HB.out.trans (b1.mono HB.out.size))
  replace TA := hide (TA.out.below b1)
  replace TB := hide (TB.out.below b1)
  replace TC := hide (TC.out.below b1)
  replace HV := hide (HV.out.below b1)
  have TD := hide t1
  clear t1 b1
  go_wp2_with fail
  refine (Do_open w.heap.size v (gc, 0, ⟨#[97]⟩) (gd, 1, ⟨#[98]⟩) [] [] 0 5 _ HV.out HB.out.size (by decide) TD.out (by decide)).mono ?_; rintro e w1 ⟨rfl, u1, k1, b1⟩
  replace HB := hide (HB.out.trans b1)
  replace TA := hide (TA.out.kept k1)
  replace TB := hide (TB.out.kept k1)
  replace TC := hide (TC.out.kept k1)
  replace TD := hide (TD.out.kept k1)
  replace HV : Hid (Und w1 w.heap.size v (gd, 1, ⟨#[98]⟩) [(gc, 0, ⟨#[97]⟩)] [] 5) := hide (by simpa [show max (5 : Int) 0 = 5 from rfl] using u1)
  clear u1 k1 b1
  go_wp2_with fail
  refine (mk2 ⟨#[99]⟩ _ (by decide)).mono ?_; rintro e w1 ⟨ge, rfl, t1, b1⟩
  replace HB := hide (HB.out.trans (b1.mono HB.out.size))
  replace TA := hide (TA.out.below b1)
  replace TB := hide (TB.out.below b1)
  replace TC := hide (TC.out.below b1)
  replace HV := hide (HV.out.below b1)
  replace TD := hide (TD.out.below b1)
  have TE := hide t1
  clear t1 b1
  go_wp2_with fail
  refine (Do_same w.heap.size v (gd, 1, ⟨#[98]⟩) (ge, 2, ⟨#[99]⟩) [(gc, 0, ⟨#[97]⟩)] [] 5 _ HV.out HB.out.size TE.out (by decide)).mono ?_; rintro e w1 ⟨rfl, u1, k1, b1⟩
  replace HB := hide (HB.out.trans b1)
  replace TA := hide (TA.out.kept k1)
  replace TB := hide (TB.out.kept k1)
  replace TC := hide (TC.out.kept k1)
  replace TD := hide (TD.out.kept k1)
  replace TE := hide (TE.out.kept k1)
  replace HV : Hid (Und w1 w.heap.size v (ge, 2, ⟨#[99]⟩) [(gc, 0, ⟨#[97]⟩)] [] 5) := hide (by simpa [show max (5 : Int) 0 = 5 from rfl] using u1)
  clear u1 k1 b1
  go_wp2_with fail
  refine (steps_und w.heap.size v (ge, 2, ⟨#[99]⟩) [(gc, 0, ⟨#[97]⟩)] [] 5 _ HV.out).mono ?_; rintro e w1 ⟨rfl, b1⟩
  replace HB := hide (HB.out.trans (b1.mono HB.out.size))
  replace TA := hide (TA.out.below b1)
  replace TB := hide (TB.out.below b1)
  replace TC := hide (TC.out.below b1)
  replace HV := hide (HV.out.below b1)
  replace TD := hide (TD.out.below b1)
  replace TE := hide (TE.out.below b1)
  clear b1
  go_wp2_with fail
  refine (Undo_any w.heap.size v (ge, 2, ⟨#[99]⟩) (gc, 0, ⟨#[97]⟩) [] [] 5 _ HV.out HB.out.size (by decide) (by decide)).mono ?_; rintro e w1 ⟨rfl, u1, k1, b1⟩
  replace HB := hide (HB.out.trans b1)
  replace TA := hide (TA.out.kept k1)
  replace TB := hide (TB.out.kept k1)
  replace TC := hide (TC.out.kept k1)
  replace TD := hide (TD.out.kept k1)
  replace TE := hide (TE.out.kept k1)
  replace HV : Hid (Und w1 w.heap.size v (gc, 0, ⟨#[97]⟩) [] [(ge, 2, ⟨#[99]⟩)] 0) := hide (by simpa [show max (5 : Int) 0 = 5 from rfl] using u1)
  clear u1 k1 b1
  go_wp2_with fail
  refine (is_true _ 0 ⟨#[97]⟩ _ (by decide) TA.out).mono ?_; rintro e w1 ⟨rfl, b1⟩
  replace HB := hide (HB.out.trans (b1.mono HB.out.size))
  replace TA := hide (TA.out.below b1)
  replace TB := hide (TB.out.below b1)
  replace TC := hide (TC.out.below b1)
  replace HV := hide (HV.out.below b1)
  replace TD := hide (TD.out.below b1)
  replace TE := hide (TE.out.below b1)
  clear b1
  go_wp2_with fail
  refine (is_true _ 1 ⟨#[98]⟩ _ (by decide) TB.out).mono ?_; rintro e w1 ⟨rfl, b1⟩
  replace HB := hide (HB.out.trans (b1.mono HB.out.size))
  replace TA := hide (TA.out.below b1)
  replace TB := hide (TB.out.below b1)
  replace TC := hide (TC.out.below b1)
  replace HV := hide (HV.out.below b1)
  replace TD := hide (TD.out.below b1)
  replace TE := hide (TE.out.below b1)
  clear b1
  go_wp2_with fail
  refine (is_true _ 0 ⟨#[97]⟩ _ (by decide) TC.out).mono ?_; rintro e w1 ⟨rfl, b1⟩
  replace HB := hide (HB.out.trans (b1.mono HB.out.size))
  replace TA := hide (TA.out.below b1)
  replace TB := hide (TB.out.below b1)
  replace TC := hide (TC.out.below b1)
  replace HV := hide (HV.out.below b1)
  replace TD := hide (TD.out.below b1)
  replace TE := hide (TE.out.below b1)
  clear b1
  go_wp2_with fail
  refine (mk2 ⟨#[100]⟩ _ (by decide)).mono ?_; rintro e w1 ⟨gf, rfl, t1, b1⟩
  replace HB := hide (HB.out.trans (b1.mono HB.out.size))
  replace TA := hide (TA.out.below b1)
  replace TB := hide (TB.out.below b1)
  replace TC := hide (TC.out.below b1)
  replace HV := hide (HV.out.below b1)
  replace TD := hide (TD.out.below b1)
  replace TE := hide (TE.out.below b1)
  have TF := hide t1
  clear t1 b1
  go_wp2_with fail
  refine (Do_open w.heap.size v (gc, 0, ⟨#[97]⟩) (gf, 3, ⟨#[100]⟩) [] [(ge, 2, ⟨#[99]⟩)] 0 5 _ HV.out HB.out.size (by decide) TF.out (by decide)).mono ?_; rintro e w1 ⟨rfl, u1, k1, b1⟩
  replace HB := hide (HB.out.trans b1)
  replace TA := hide (TA.out.kept k1)
  replace TB := hide (TB.out.kept k1)
  replace TC := hide (TC.out.kept k1)
  replace TD := hide (TD.out.kept k1)
  replace TE := hide (TE.out.kept k1)
  replace TF := hide (TF.out.kept k1)
  replace HV : Hid (Und w1 w.heap.size v (gf, 3, ⟨#[100]⟩) [(gc, 0, ⟨#[97]⟩)] [] 5) := hide (by simpa [show max (5 : Int) 0 = 5 from rfl] using u1)
  clear u1 k1 b1
  go_wp2_with fail
  refine (steps_und w.heap.size v (gf, 3, ⟨#[100]⟩) [(gc, 0, ⟨#[97]⟩)] [] 5 _ HV.out).mono ?_; rintro e w1 ⟨rfl, b1⟩
  replace HB := hide (HB.out.trans (b1.mono HB.out.size))
  replace TA := hide (TA.out.below b1)
  replace TB := hide (TB.out.below b1)
  replace TC := hide (TC.out.below b1)
  replace HV := hide (HV.out.below b1)
  replace TD := hide (TD.out.below b1)
  replace TE := hide (TE.out.below b1)
  replace TF := hide (TF.out.below b1)
  clear b1
  go_wp2
  go_ret
  exact ⟨rfl, HB.out⟩
end Go.Proofs.Ytgpcpfohfoeclaa
