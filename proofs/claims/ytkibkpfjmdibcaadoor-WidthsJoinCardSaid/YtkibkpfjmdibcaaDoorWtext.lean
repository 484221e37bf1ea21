/- Contracts of widths.Text, limnerref01.Starts and limnerref02.Text. -/
import Derived.Test.YtkibkpfjmdibcaaDoorRw
import Derived.Test.YtkibkpfjmdibcaaDoorCodes
import Derived.Laws.RangeAny
import Derived.Lib.OthersKept
namespace Go.Proofs.YtkibkpfjmdibcaaDoor
open Go.RowKit

/-- How many cells the runes from a place on take. -/
def textFrom (s : ByteArray) : Nat → Nat → Int
  | 0, _ => 0
  | f + 1, pos => if pos < s.size then cells (shown (Utf8.decode s pos).1) + textFrom s f (pos + (Utf8.decode s pos).2) else 0
def textW (s : ByteArray) : Int := textFrom s s.size 0
theorem textFrom_end {s : ByteArray} {f pos : Nat} (h : ¬ pos < s.size) : textFrom s f pos = 0 := by
  cases f with
  | zero => rfl
  | succ f => simp only [textFrom]; rw [if_neg h]
theorem textFrom_go {s : ByteArray} {f pos : Nat} (h : pos < s.size) : textFrom s (f + 1) pos = cells (shown (Utf8.decode s pos).1) + textFrom s f (pos + (Utf8.decode s pos).2) := by
  simp only [textFrom]; rw [if_pos h]
theorem textFrom_bd (s : ByteArray) : ∀ f pos, 0 ≤ textFrom s f pos ∧ textFrom s f pos ≤ 2 * f
  | 0, _ => by simp [textFrom]
  | f + 1, pos => by
    simp only [textFrom]
    split
    · have := cells_bd (shown (Utf8.decode s pos).1)
      have := textFrom_bd s f (pos + (Utf8.decode s pos).2)
      omega
    · omega
theorem text_step {s : ByteArray} {f pos : Nat} {a c T : Int} (hp : pos < s.size) (hc : c = cells (shown (Utf8.decode s pos).1)) (h : a + textFrom s f pos = T) (hf : s.size ≤ pos + f) : a + c + textFrom s (f - 1) (pos + (Utf8.decode s pos).2) = T := by
  subst hc
  obtain ⟨f, rfl⟩ : ∃ g, f = g + 1 := ⟨f - 1, by omega⟩
  rw [textFrom_go hp] at h
  simp only [Nat.add_sub_cancel]
  omega

theorem wof_x (r : Int) (w : World) (hT : WTabs w) : Calls Tryd.prog 8 #[.int .i32 r] w fun e w' => ∃ c : Int, Hid (c = cells r) ∧ 0 ≤ c ∧ c ≤ 2 ∧ e = .returned (.int .i64 c) ∧ Below w.heap.size w w' :=
  (wof_any r w hT).mono fun _ _ ⟨he, hw⟩ => ⟨_, rfl, (cells_bd r).1, (cells_bd r).2, he, hw⟩
theorem wshown_x (r : Int) (w : World) (hT : WTabs w) : Calls Tryd.prog 10 #[.int .i32 r] w fun e w' => ∃ c : Int, Hid (c = shown r) ∧ e = .returned (.int .i32 c) ∧ Below w.heap.size w w' :=
  (wshown_any r w hT).mono fun _ _ ⟨he, hw⟩ => ⟨_, rfl, he, hw⟩

set_option maxHeartbeats 1000000 in
theorem text_any (s : ByteArray) (w : World) (hs : s.size ≤ 1048576) (hW : WTabs w) (hU : UTabs w) :
    Calls Tryd.prog 15 #[.string s] w fun e w' => e = .returned (.int .i64 (textW s)) ∧ Below w.heap.size w w' := by
  have HW := hide hW
  have HU := hide hU
  clear hW hU
  go_enter Tryd.func15, Tryd.ntmps15
  go_wp2
  go_loopw [3] (fun n wr => ∃ (pos f : Nat) (a : Int), wr.heap[w.heap.size]? = some (.stringIter s pos) ∧ 0 ≤ a ∧ a + 2 * f ≤ 2 * s.size ∧ n = .int .i64 a ∧ Hid (a + textFrom s f pos = textW s) ∧ s.size ≤ pos + f ∧ pos ≤ s.size ∧ Below w.heap.size w wr) (fun _ wr => s.size - wr.iterPos w.heap.size)
  case atStart => exact ⟨0, s.size, 0, World.iter_heap _ _ _, by omega, by omega, rfl, Int.zero_add _, by omega, by omega, (Below.refl _ _).alloc (Nat.le_refl _) _⟩
  case round =>
    obtain ⟨pos, f, a, hit, ha0, ha2, rfl, HT, hf, hpos, hB⟩ := hrel
    by_cases hp : pos < s.size
    · have hnx : ∀ ty, (Instr.next (.pointer (some ⟨w.heap.size, 0, none⟩)) true ty).run Tryd.prog wr = _ := fun ty => Lib.run_next_any_at wr w.heap.size s pos ty hit hp
      have hd := dec_in s pos hp
      obtain ⟨wi, hwi⟩ : ∃ wi, wi = wr.iterAt w.heap.size s (pos + (Utf8.decode s pos).2) := ⟨_, rfl⟩
      have hBi : Below w.heap.size w wi := by rw [hwi]; exact Lib.below_iterAt hB (Nat.le_refl _) _ _
      have hiti : wi.heap[w.heap.size]? = some (.stringIter s (pos + (Utf8.decode s pos).2)) := by rw [hwi]; exact Lib.iterAt_heap _ _ _ _ _ hit
      have hlt : w.heap.size < wi.heap.size := by rw [hwi, Lib.iterAt_size]; exact (Array.getElem?_eq_some_iff.1 hit).1
      rw [← hwi] at hnx
      have HBI := hide hBi
      have HITI := hide hiti
      have HIT := hide hit
      clear hwi hBi hiti hit hB
      go_wp2_with (first
        | (go_at_call 23; refine (next_any s pos _ hs hp (HU.out.below HBI.out)).mono ?_; rintro e w1 ⟨rfl, hb1⟩; have HB1 := hide (HBI.out.trans (hb1.mono HBI.out.size)); have HI1 := hide ((hb1.block w.heap.size hlt).trans HITI.out); clear hb1)
        | (go_at_call 10; refine (wshown_x _ _ (HW.out.below HB1.out)).mono ?_; rintro e w2 ⟨c, HC, rfl, hb2⟩; have HB2 := hide (HB1.out.trans (hb2.mono HB1.out.size)); have HI2 := hide ((hb2.block w.heap.size (Array.getElem?_eq_some_iff.1 HI1.out).1).trans HI1.out); clear hb2)
        | (go_at_call 8; refine (wof_x _ _ (HW.out.below HB2.out)).mono ?_; rintro e w3 ⟨d, HD, hd0, hd2, rfl, hb3⟩; have HB3 := hide (HB2.out.trans (hb3.mono HB2.out.size)); have HI3 := hide ((hb3.block w.heap.size (Array.getElem?_eq_some_iff.1 HI2.out).1).trans HI2.out); clear hb3))
      go_roundw
      case rel => exact ⟨pos + (Utf8.decode s pos).2, f - 1, a + d, HI3.out, by omega, by omega, rfl, text_step hp (by rw [HD.out, HC.out]) HT.out hf, by omega, by omega, HB3.out⟩
      case measure => simp only [World.iterPos]; rw [HI3.out, HIT.out]; dsimp only; omega
    · have hnx : ∀ ty, (Instr.next (.pointer (some ⟨w.heap.size, 0, none⟩)) true ty).run Tryd.prog wr = _ := fun ty => Lib.run_next_end_at wr w.heap.size s pos ty hit hp
      go_wp2
      go_ret
      exact ⟨ret_cells (by rw [← HT.out, textFrom_end hp, Int.add_zero]), hB⟩
end Go.Proofs.YtkibkpfjmdibcaaDoor
