/- Contracts of codes.Count and codes.Valid. -/
import Derived.Test.YtkmcfcpockpadaaDoorCodes
import Derived.Laws.RangeAny
import Derived.Lib.OthersKept
namespace Go.Proofs.YtkmcfcpockpadaaDoor
open Go.RowKit

theorem countFrom_go {s : ByteArray} {f pos : Nat} (h : pos < s.size) : Lib.runeCountFrom s (f + 1) pos = 1 + Lib.runeCountFrom s f (pos + (Utf8.decode s pos).2) := by
  simp only [Lib.runeCountFrom]; rw [if_pos h]
theorem count_step {s : ByteArray} {f pos : Nat} {a T : Int} (hp : pos < s.size) (h : a + (Lib.runeCountFrom s f pos : Nat) = T) (hf : s.size ≤ pos + f) : a + 1 + (Lib.runeCountFrom s (f - 1) (pos + (Utf8.decode s pos).2) : Nat) = T := by
  obtain ⟨f, rfl⟩ : ∃ g, f = g + 1 := ⟨f - 1, by omega⟩
  rw [countFrom_go hp] at h
  simp only [Nat.add_sub_cancel]
  omega
theorem ret_int {a b : Int} (h : a = b) : Ending.returned (.int .i64 a) = .returned (.int .i64 b) := by rw [h]

set_option maxHeartbeats 1000000 in
theorem count_any (s : ByteArray) (w : World) (hs : s.size ≤ 1048576) :
    Calls Tryd.prog 14 #[.string s] w fun e w' => e = .returned (.int .i64 (Lib.runeCount s : Nat)) ∧ Below w.heap.size w w' := by
  go_enter Tryd.func14, Tryd.ntmps14
  go_wp2
  go_loopw [3] (fun n wr => ∃ (pos f : Nat) (a : Int), wr.heap[w.heap.size]? = some (.stringIter s pos) ∧ 0 ≤ a ∧ a ≤ pos ∧ n = .int .i64 a ∧ Hid (a + (Lib.runeCountFrom s f pos : Nat) = (Lib.runeCount s : Nat)) ∧ s.size ≤ pos + f ∧ pos ≤ s.size ∧ Below w.heap.size w wr) (fun _ wr => s.size - wr.iterPos w.heap.size)
  case atStart => exact ⟨0, s.size, 0, World.iter_heap _ _ _, by omega, by omega, rfl, Int.zero_add _, by omega, by omega, (Below.refl _ _).alloc (Nat.le_refl _) _⟩
  case round =>
    obtain ⟨pos, f, a, hit, ha0, ha2, rfl, HT, hf, hpos, hB⟩ := hrel
    by_cases hp : pos < s.size
    · have hnx : ∀ ty, (Instr.next (.pointer (some ⟨w.heap.size, 0, none⟩)) true ty).run Tryd.prog wr = _ := fun ty => Lib.run_next_any_at wr w.heap.size s pos ty hit hp
      have hd := dec_in s pos hp
      obtain ⟨wi, hwi⟩ : ∃ wi, wi = wr.iterAt w.heap.size s (pos + (Utf8.decode s pos).2) := ⟨_, rfl⟩
      have hBi : Below w.heap.size w wi := by rw [hwi]; exact Lib.below_iterAt hB (Nat.le_refl _) _ _
      have hiti : wi.heap[w.heap.size]? = some (.stringIter s (pos + (Utf8.decode s pos).2)) := by rw [hwi]; exact Lib.iterAt_heap _ _ _ _ _ hit
      rw [← hwi] at hnx
      have HBI := hide hBi
      have HITI := hide hiti
      have HIT := hide hit
      clear hwi hBi hiti hit hB
      go_wp2
      go_roundw
      case rel => exact ⟨pos + (Utf8.decode s pos).2, f - 1, a + 1, HITI.out, by omega, by omega, rfl, count_step hp HT.out hf, by omega, by omega, HBI.out⟩
      case measure => simp only [World.iterPos]; rw [HITI.out, HIT.out]; dsimp only; omega
    · have hnx : ∀ ty, (Instr.next (.pointer (some ⟨w.heap.size, 0, none⟩)) true ty).run Tryd.prog wr = _ := fun ty => Lib.run_next_end_at wr w.heap.size s pos ty hit hp
      go_wp2
      go_ret
      exact ⟨ret_int (by rw [← HT.out, Lib.runeCountFrom_end s f pos hp]; simp), hB⟩
end Go.Proofs.YtkmcfcpockpadaaDoor
