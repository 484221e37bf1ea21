/- Contract of codes.Put. -/
import Derived.Test.YtiilgeinkocanaaDoorPut
import Derived.Test.YtiilgeinkocanaaDoorShelf
namespace Go.Proofs.YtiilgeinkocanaaDoor
open Go.RowKit Go.Shelf

theorem cput_any (r : Int) (w : World) : Calls Tryd.prog 11 #[.int .i32 r] w fun e w' => e = .returned (.string (putS r)) ∧ w = w' := by
  have hv : Utf8.valid r = Lib.validRune r := by
    rw [Bool.eq_iff_iff]
    simp only [Utf8.valid, Lib.validRune, Bool.or_eq_true, Bool.and_eq_true, decide_eq_true_eq]
    omega
  cases h : Lib.validRune r
  · have H := hide h
    have HP := hide (show putS r = ⟨#[]⟩ by rw [putS, hv, h]; rfl)
    clear h hv
    go_enter Tryd.func11, Tryd.ntmps11
    go_wp2_with (go_at_call 22; refine (Tryd.utf8_ValidRune r _).mono ?_; rw [H.out]; rintro e w1 ⟨rfl, rfl⟩)
    go_ret
    exact ⟨ret_str HP.out.symm, rfl⟩
  · have H := hide h
    have HP := hide (show putS r = Utf8.encode r by rw [putS, hv, h]; rfl)
    clear h hv
    go_enter Tryd.func11, Tryd.ntmps11
    go_wp2_with (go_at_call 22; refine (Tryd.utf8_ValidRune r _).mono ?_; rw [H.out]; rintro e w1 ⟨rfl, rfl⟩)
    go_ret
    exact ⟨ret_str HP.out.symm, rfl⟩
end Go.Proofs.YtiilgeinkocanaaDoor
