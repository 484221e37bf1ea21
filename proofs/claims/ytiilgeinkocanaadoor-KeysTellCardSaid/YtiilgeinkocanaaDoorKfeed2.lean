/- Contract of Feed of keys. -/
import Derived.Test.YtiilgeinkocanaaDoorKfeed
import Derived.Test.YtiilgeinkocanaaDoorKpasted
namespace Go.Proofs.YtiilgeinkocanaaDoor
open Go.RowKit

set_option maxRecDepth 100000 in
set_option maxHeartbeats 1000000 in
theorem feed_paste (D q : Nat) (F : List Nat) (p : ByteArray) (x : Int) (v : Value) (w : World) (hU : UTabs w) (hT : WTabs w) (h0 : 0 ≤ x) (h1 : x ≤ 255) (hs : ∀ k ∈ F, SafeB k) (hz : p.size ≤ 1000000)
    (hF : F = [D, q] ∧ v = .slice none 0 0 ∧ p.size = 0 ∨ ∃ g n c, F = [D, q, g] ∧ v = .slice (some ⟨g, 0, none⟩) n c) (hD : Blk w D 46 [.iface 53 (.pointer (some ⟨q, 0, none⟩))]) (hq : Blk w q 70 [v]) (hown : w.ownsRow 0 5 1 v p.size (byteV p)) :
    Calls Tryd.prog 15 #[.pointer (some ⟨D, 0, none⟩), .int .u8 x] w (FPost D F (pasteK p x) w) := by
  have HP := hide (pasted_any D q F p x v w hU hT h0 h1 hs hz hF hD hq hown)
  have e0 := hD.cell (i := 0) rfl
  clear hU hT hs hF hD hq hown
  go_enter Tryd.func15, Tryd.ntmps15
  go_wp2_with fail
  refine (none_any D _ _ _ e0).mono ?_
  rintro e w1 ⟨rfl, hw1⟩
  subst hw1
  go_wp2_with fail
  refine HP.out.mono ?_
  intro e w2 hp
  have HP2 := hide hp
  clear hp
  obtain ⟨v2, rfl, h5⟩ := HP2.out
  go_wp2_with fail
  go_ret
  exact ⟨v2, rfl, h5⟩
/-- Contract of Feed. -/
theorem feed_any (D : Nat) (F : List Nat) (st : KS) (x : Int) (w : World) (hU : UTabs w) (hT : WTabs w) (h0 : 0 ≤ x) (h1 : x ≤ 255) (hs : ∀ k ∈ F, SafeB k) (hz : st.2.size ≤ 1000000) (h : DecAt w D F st) :
    Calls Tryd.prog 15 #[.pointer (some ⟨D, 0, none⟩), .int .u8 x] w (FPost D F (feedK st x) w) := by
  obtain ⟨b, s⟩ := st
  rcases h with ⟨hb, rfl, h1'⟩ | ⟨hb, q, v, hF, hD, hq, hown⟩
  · dsimp only at hb h1' hz
    subst hb
    exact (feed_str D s x w hU h0 h1 (hs D (by simp)) hz h1').mono fun e w' hp => fp_of hp
  · dsimp only at hb hF hown hz
    subst hb
    exact feed_paste D q F s x v w hU hT h0 h1 hs hz hF hD hq hown
end Go.Proofs.YtiilgeinkocanaaDoor
