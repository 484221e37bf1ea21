/- Contract of keys.begins: are bytes a beginning of a rune? -/
import Derived.Test.YtiilgeinkocanaaDoorAfull
namespace Go.Proofs.YtiilgeinkocanaaDoor
open Go.RowKit Go.Lib

set_option maxHeartbeats 1000000 in
/-- keys.begins. -/
theorem begins_any (s : ByteArray) (w : World) (hT : UTabs w) : Calls Tryd.prog 47 #[.string s] w fun e w' => e = .returned (.bool (begB s)) ∧ Below w.heap.size w w' := by
  have HT := hide hT
  clear hT
  by_cases h0 : s.size = 0
  · obtain rfl := size0 h0
    go_enter Tryd.func47, Tryd.ntmps47
    go_wp2
    go_ret
    exact ⟨rfl, Below.refl _ _⟩
  · have hl : s.toList.isEmpty = false := by
      rw [ByteArray.toList_eq]
      cases h : s.data.toList with
      | nil => exfalso; apply h0; show s.data.size = 0; rw [← Array.length_toList, h]; rfl
      | cons a l => rfl
    have hp : 0 < s.size := by omega
    cases hb : begB s
    all_goals
      have HF := hide (full_any s w HT.out hp)
      rw [hb] at HF
      clear hb
      go_enter Tryd.func47, Tryd.ntmps47
      go_wp2_with (go_at_call 64; refine HF.out.mono ?_; rintro e w' ⟨rfl, hb⟩)
      go_ret
      exact ⟨rfl, hb⟩
end Go.Proofs.YtiilgeinkocanaaDoor
