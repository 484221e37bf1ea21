/- limnerlaw03.put: the chapter's examples. -/
import Derived.Test.YtmllbaacjodccaaQall
namespace Go.Proofs.Ytmllbaacjodccaa
open Go.RowKit
variable {R : Nat → Prop}

/-- (*Text).String, by its bytes. -/
theorem str_is (p : Value) (zs : List ByteArray) (s : ByteArray) (w : World) (h : TextAt R w p zs) (hz : total zs ≤ 1048576) (hl : zs.length ≤ 1048576) (hj : joined zs = s) :
    Calls Try.prog 12 #[p] w fun e w' => e = .returned (.string s) ∧ Below w.heap.size w w' := by
  subst hj
  exact str_any p zs w h hz hl
theorem pieces_is (p : Value) (zs : List ByteArray) (n : Int) (w : World) (h : TextAt R w p zs) (hn : ((zs.length : Nat) : Int) = n) :
    Calls Try.prog 17 #[p] w fun e w' => e = .returned (.int .i64 n) ∧ Below w.heap.size w w' := by
  subst hn
  exact pieces_any p zs w h
theorem p1 : onePiece ⟨#[97, 98, 99, 100]⟩ = [⟨#[97, 98, 99, 100]⟩] := by decide +kernel
theorem p2 : insP (onePiece ⟨#[97, 98, 99, 100]⟩) 2 ⟨#[120, 121]⟩ = [⟨#[97, 98]⟩, ⟨#[120, 121]⟩, ⟨#[99, 100]⟩] := by decide +kernel
theorem p3 : delP [⟨#[97, 98]⟩, ⟨#[120, 121]⟩, ⟨#[99, 100]⟩] 1 5 = [⟨#[97]⟩, ⟨#[100]⟩] := by decide +kernel
set_option maxHeartbeats 2000000 in
set_option maxRecDepth 100000 in
theorem put_any (w : World) : Calls Try.prog 8 #[] w fun e w' => e = .returned (.bool true) ∧ Below w.heap.size w w' := by
  have HB := hide (Below.refl w.heap.size w)
  go_enter Try.func8, Try.ntmps8
  go_wp2_with fail
  refine (new_any (R := fun _ => False) ⟨#[97, 98, 99, 100]⟩ _ (by decide) (fun _ _ h => h)).mono ?_; rintro e w1 ⟨pt, rfl, t1, b1⟩
  replace HB := hide (HB.out.trans (b1.mono HB.out.size))
  have TT := hide t1
  clear t1 b1
  go_wp2_with fail
  refine (Insert_any pt _ 2 ⟨#[120, 121]⟩ _ TT.out (by decide +kernel) (by decide +kernel) (by decide +kernel) (fun _ _ h => h)).mono ?_; rintro e w1 ⟨pu, rfl, t1, b1⟩
  replace TT := hide (TT.out.below b1)
  replace HB := hide (HB.out.trans (b1.mono HB.out.size))
  have TU := hide t1
  clear t1 b1
  rw [p2] at TU
  go_wp2_with fail
  refine (Delete_any pu _ 1 5 _ TU.out (by decide) (by decide +kernel) (by decide +kernel) (by decide +kernel) (fun _ _ h => h)).mono ?_; rintro e w1 ⟨pv, rfl, t1, b1⟩
  replace TT := hide (TT.out.below b1)
  replace TU := hide (TU.out.below b1)
  replace HB := hide (HB.out.trans (b1.mono HB.out.size))
  have TV := hide t1
  clear t1 b1
  rw [p3] at TV
  go_wp2_with fail
  refine (Insert_arg pt _ 5 ⟨#[120]⟩ _ TT.out (by decide +kernel)).mono ?_; rintro e w1 ⟨rfl, b1⟩
  replace TT := hide (TT.out.below b1)
  replace TU := hide (TU.out.below b1)
  replace TV := hide (TV.out.below b1)
  replace HB := hide (HB.out.trans (b1.mono HB.out.size))
  clear b1
  go_wp2_with fail
  refine (str_is pu _ ⟨#[97, 98, 120, 121, 99, 100]⟩ _ TU.out (by decide +kernel) (by decide +kernel) (by decide +kernel)).mono ?_; rintro e w1 ⟨rfl, b1⟩
  replace TT := hide (TT.out.below b1)
  replace TU := hide (TU.out.below b1)
  replace TV := hide (TV.out.below b1)
  replace HB := hide (HB.out.trans (b1.mono HB.out.size))
  clear b1
  go_wp2_with fail
  refine (pieces_is pu _ 3 _ TU.out rfl).mono ?_; rintro e w1 ⟨rfl, b1⟩
  replace TT := hide (TT.out.below b1)
  replace TU := hide (TU.out.below b1)
  replace TV := hide (TV.out.below b1)
  replace HB := hide (HB.out.trans (b1.mono HB.out.size))
  clear b1
  go_wp2_with fail
  refine (str_is pv _ ⟨#[97, 100]⟩ _ TV.out (by decide +kernel) (by decide +kernel) (by decide +kernel)).mono ?_; rintro e w1 ⟨rfl, b1⟩
  replace TT := hide (TT.out.below b1)
  replace TU := hide (TU.out.below b1)
  replace TV := hide (TV.out.below b1)
  replace HB := hide (HB.out.trans (b1.mono HB.out.size))
  clear b1
  go_wp2_with fail
  refine (pieces_is pv _ 2 _ TV.out rfl).mono ?_; rintro e w1 ⟨rfl, b1⟩
  replace TT := hide (TT.out.below b1)
  replace TU := hide (TU.out.below b1)
  replace TV := hide (TV.out.below b1)
  replace HB := hide (HB.out.trans (b1.mono HB.out.size))
  clear b1
  go_wp2_with fail
  refine (Slice_any pt _ 1 3 ⟨#[98, 99]⟩ _ TT.out (by decide) (by decide +kernel) (by decide +kernel) (by decide +kernel) (by decide +kernel) (fun _ _ h => h)).mono ?_; rintro e w1 ⟨rfl, b1⟩
  replace TT := hide (TT.out.below b1)
  replace TU := hide (TU.out.below b1)
  replace TV := hide (TV.out.below b1)
  replace HB := hide (HB.out.trans (b1.mono HB.out.size))
  clear b1
  go_wp2_with fail
  refine (Slice_bad pt _ 3 1 _ TT.out (by decide)).mono ?_; rintro e w1 ⟨rfl, b1⟩
  replace TT := hide (TT.out.below b1)
  replace TU := hide (TU.out.below b1)
  replace TV := hide (TV.out.below b1)
  replace HB := hide (HB.out.trans (b1.mono HB.out.size))
  clear b1
  go_wp2_with fail
  refine (str_is pt _ ⟨#[97, 98, 99, 100]⟩ _ TT.out (by decide +kernel) (by decide +kernel) (by decide +kernel)).mono ?_; rintro e w1 ⟨rfl, b1⟩
  replace TT := hide (TT.out.below b1)
  replace TU := hide (TU.out.below b1)
  replace TV := hide (TV.out.below b1)
  replace HB := hide (HB.out.trans (b1.mono HB.out.size))
  clear b1
  go_wp2
  go_ret
  exact ⟨rfl, HB.out⟩
end Go.Proofs.Ytmllbaacjodccaa
