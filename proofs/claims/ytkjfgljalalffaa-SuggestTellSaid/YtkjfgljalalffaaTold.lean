/- limnerlaw33.told: the chapter's entries. -/
import Derived.Test.YtkjfgljalalffaaSugOf
import Derived.KernelRfl
namespace Go.Proofs.Ytkjfgljalalffaa
open Go.RowKit

theorem ofK_size {zs : List ByteArray} {t : ByteArray} {m : Nat} (h : ∀ j, j < zs.length → (zs[j]?.getD ByteArray.empty).size ≤ m) : ∀ k, k ≤ zs.length → (ofK zs t k).size ≤ m
  | 0, _ => Nat.zero_le _
  | k + 1, hk => by
    simp only [ofK]
    split
    · have := h k (by omega)
      simp only [ByteArray.size_extract]; omega
    · exact ofK_size h k (by omega)
theorem ofS_size {zs : List ByteArray} {t : ByteArray} {m : Nat} (h : ∀ j, j < zs.length → (zs[j]?.getD ByteArray.empty).size ≤ m) : (ofS zs t).size ≤ m := by
  rw [ofS]; split
  · exact Nat.zero_le _
  · exact ofK_size h _ (Nat.le_refl _)

def tz : List ByteArray := [⟨#[103, 105, 116, 32, 108, 111, 103]⟩, ⟨#[103, 105, 116, 32, 112, 117, 115, 104, 32, 111, 114, 105, 103, 105, 110]⟩, ⟨#[108, 115]⟩]
theorem t1 : ofS tz ⟨#[103, 105, 116]⟩ = ⟨#[32, 112, 117, 115, 104, 32, 111, 114, 105, 103, 105, 110]⟩ := by decide +kernel
theorem t2 : ofS tz ⟨#[103, 105, 116, 32, 112]⟩ = ⟨#[117, 115, 104, 32, 111, 114, 105, 103, 105, 110]⟩ := by decide +kernel
theorem t3 : ofS tz ⟨#[108, 115]⟩ = ⟨#[]⟩ := by decide +kernel
theorem t4 : partS ⟨#[32, 112, 117, 115, 104, 32, 111, 114, 105, 103, 105, 110]⟩ = ⟨#[32, 112, 117, 115, 104]⟩ := by decide +kernel
theorem t5 : partS ⟨#[40, 97]⟩ = ⟨#[40]⟩ := by decide +kernel

theorem told_slice (w : World) : Strs (w.heap.size + 1) (w.alloc (.cells #[.string ⟨#[103, 105, 116, 32, 108, 111, 103]⟩, .string ⟨#[103, 105, 116, 32, 112, 117, 115, 104, 32, 111, 114, 105, 103, 105, 110]⟩, .string ⟨#[108, 115]⟩] 9)) (.slice (some ⟨w.heap.size, 0, none⟩) 3 3) tz := by
  refine ⟨_, 3, rfl, .inr ⟨w.heap.size, 0, rfl, by omega, fun j hj => ?_⟩⟩
  rw [cell_first]
  match j, hj with
  | 0, _ => rfl
  | 1, _ => rfl
  | 2, _ => rfl
set_option maxHeartbeats 400000 in
theorem told_any (w : World) : Calls Try.prog 7 #[] w fun e w' => e = .returned (.bool true) ∧ Below w.heap.size w w' := by
  have hS := hide (told_slice w)
  have hB0 : Below w.heap.size w (w.alloc (.cells #[.string ⟨#[103, 105, 116, 32, 108, 111, 103]⟩, .string ⟨#[103, 105, 116, 32, 112, 117, 115, 104, 32, 111, 114, 105, 103, 105, 110]⟩, .string ⟨#[108, 115]⟩] 9)) := (Below.refl _ _).alloc (Nat.le_refl _) _
  go_enter Try.func7, Try.ntmps7
  go_wp2_with fail
  obtain ⟨w0, hw0⟩ : ∃ w0, w0 = (w.alloc (.cells #[.string ⟨#[103, 105, 116, 32, 108, 111, 103]⟩, .string ⟨#[103, 105, 116, 32, 112, 117, 115, 104, 32, 111, 114, 105, 103, 105, 110]⟩, .string ⟨#[108, 115]⟩] 9)) := ⟨_, rfl⟩
  have hz : w0.heap.size = w.heap.size + 1 := by rw [hw0]; simp
  rw [← hw0] at hS hB0 ⊢
  have HZ := hide hz
  clear hz hw0
  refine (of_any _ tz _ _ (by decide) (by rw [HZ.out]; exact hS.out)).mono ?_
  rw [t1]
  rintro e w1 ⟨rfl, hb1⟩
  have s1 := hide (hS.out.below (HZ.out ▸ hb1))
  have z1 := hb1.size
  have b1 := hide (hB0.trans (hb1.mono (by rw [HZ.out]; omega)))
  clear hb1
  go_wp2_with fail
  refine (of_any _ tz _ _ (by decide) (s1.out.mono (by rw [← HZ.out]; exact z1))).mono ?_
  rw [t2]
  rintro e w2 ⟨rfl, hb2⟩
  have s2 := hide (s1.out.below (hb2.mono (by rw [← HZ.out]; exact z1)))
  have z2 := Nat.le_trans z1 hb2.size
  have b2 := hide (b1.out.trans (hb2.mono b1.out.size))
  clear hb2
  go_wp2_with fail
  refine (of_any _ tz _ _ (by decide) (s2.out.mono (by rw [← HZ.out]; exact z2))).mono ?_
  rw [t3]
  rintro e w3 ⟨rfl, hb3⟩
  have b3 := hide (b2.out.trans (hb3.mono b2.out.size))
  clear hb3
  go_wp2_with fail
  refine (part_any _ _ (by decide)).mono ?_
  rw [t4]
  rintro e w4 ⟨rfl, hb4⟩
  have b4 := hide (b3.out.trans (hb4.mono b3.out.size))
  clear hb4
  go_wp2_with fail
  refine (part_any _ _ (by decide)).mono ?_
  rw [t5]
  rintro e w5 ⟨rfl, hb5⟩
  have b5 := hide (b4.out.trans (hb5.mono b4.out.size))
  clear hb5
  go_wp2_with fail
  go_ret
  exact ⟨rfl, b5.out⟩
end Go.Proofs.Ytkjfgljalalffaa
