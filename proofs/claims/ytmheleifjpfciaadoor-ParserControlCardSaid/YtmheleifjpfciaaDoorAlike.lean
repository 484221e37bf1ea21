/- Contracts of the laws' own functions: Ints, like, told, is. -/
import Derived.Test.YtmheleifjpfciaaDoorApfeed
import Derived.Test.YtmheleifjpfciaaDoorBlk
import Derived.Deep.RegionHeld3
namespace Go.Proofs.YtmheleifjpfciaaDoor
open Go.RowKit

theorem below_drewL {B : Nat} {a w : World} (h : Below B a w) (n : Nat) : Below B a (w.drewN n) := ⟨h.os, h.tape, h.output, h.size, h.block⟩
set_option maxHeartbeats 1000000 in
/-- limnerlaw01.Ints of two lists that are the same. -/
theorem nums_same (A A' : Option Addr) (c c' : Nat) (L : List Int) (w : World) (hl : L.length ≤ 1048576) (h : NumsV w (.slice A L.length c) L) (h' : NumsV w (.slice A' L.length c') L) :
    Calls Tryd.prog 24 #[.slice A L.length c, .slice A' L.length c'] w fun e w' => e = .returned (.bool true) ∧ Below w.heap.size w w' := by
  have H := hide h
  have H' := hide h'
  clear h h'
  go_enter Tryd.func24, Tryd.ntmps24
  go_wp2
  go_loopw [5] (fun i wr => ∃ k : Nat, k ≤ L.length ∧ i = .int .i64 k ∧ Below w.heap.size w wr) (fun i _ => L.length - (intOf i).toNat)
  case atStart => exact ⟨0, by omega, rfl, Below.refl _ _⟩
  case round =>
    obtain ⟨k, hk, rfl, hB⟩ := hrel
    by_cases hlt : k < L.length
    · obtain ⟨Aa, ca, ea, hc⟩ := H.out.below hB
      obtain ⟨Ab, cb, eb, hc'⟩ := H'.out.below hB
      injection ea with ea1 ea2 ea3
      injection eb with eb1 eb2 eb3
      obtain ⟨b, o, hA, -, hc⟩ := hc k _ (List.getElem?_eq_getElem hlt)
      obtain ⟨b', o', hA', -, hc'⟩ := hc' k _ (List.getElem?_eq_getElem hlt)
      rw [← ea1] at hA
      rw [← eb1] at hA'
      subst hA hA'
      clear ea1 ea2 ea3 eb1 eb2 eb3
      generalize L[k] = x at hc hc'
      have HB := hide hB
      clear hB
      go_wp2
      go_quiet (fail)
      go_wp2
      go_roundw
      case rel => exact ⟨k + 1, by omega, by go_num, below_drewL HB.out _⟩
      case measure => simp [intOf]; omega
    · go_wp2
      go_ret
      exact ⟨rfl, hB⟩

set_option maxHeartbeats 1000000 in
theorem like_any (k r f : Int) (L : List Int) (pv pv' : Value) (w : World) (hl : L.length ≤ 1048576) (h : NumsV w pv L) (h' : NumsV w pv' L) :
    Calls Tryd.prog 11 #[.agg #[.int .i64 k, .int .i32 r, pv, .int .u8 f], .agg #[.int .i64 k, .int .i32 r, pv', .int .u8 f]] w fun e w' => e = .returned (.bool true) ∧ Below w.heap.size w w' := by
  have h1 := h
  have h2 := h'
  obtain ⟨A, c, rfl, -⟩ := h1
  obtain ⟨A', c', rfl, -⟩ := h2
  have HI := hide (fun W hW => nums_same A A' c c' L W hl (h.below hW) (h'.below hW))
  clear h h'
  have H3 := hide (((Below.refl w.heap.size w).alloc (Nat.le_refl _) (.cells #[.int .i64 k, .int .i32 r, .slice A L.length c, .int .u8 f] 34)).alloc (by simp) (.cells #[.int .i64 k, .int .i32 r, .slice A' L.length c', .int .u8 f] 35))
  go_enter Tryd.func11, Tryd.ntmps11
  go_wp2_with (first | (go_at_call 24; refine (HI.out _ H3.out).mono ?_; rintro e w1 ⟨rfl, hb1⟩) | fail)
  go_ret
  exact ⟨rfl, H3.out.trans (hb1.mono (by simp; omega))⟩
end Go.Proofs.YtmheleifjpfciaaDoor
