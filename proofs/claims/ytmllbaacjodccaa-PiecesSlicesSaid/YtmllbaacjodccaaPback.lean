/- The walk of limnerlaw03.PiecesBack. -/
import Derived.Test.YtmllbaacjodccaaPput
namespace Go.Proofs.Ytmllbaacjodccaa
open Go.RowKit

theorem len_is (p : Value) (zs : List ByteArray) (n : Int) (w : World) (h : TextAt w p zs) (hn : ((total zs : Nat) : Int) = n) :
    Calls Try.prog 13 #[p] w fun e w' => e = .returned (.int .i64 n) ∧ Below w.heap.size w w' := by
  subst hn
  exact len_any p zs w h
theorem tot_one (s : ByteArray) : total (onePiece s) = s.size := by unfold onePiece; split <;> simp [total]; omega
/-- What is put in and deleted again. -/
theorem back_ins (s more : ByteArray) (a : Nat) (ha : a ≤ s.size) : joined (delP (insP (onePiece s) a more) a (a + more.size)) = s ∧ joined (sliceP (insP (onePiece s) a more) a (a + more.size)) = more := by
  have hs : s.data.toList.length = s.size := rfl
  have hm : more.data.toList.length = more.size := rfl
  have h1 : (s.data.toList.take a).length = a := by rw [List.length_take]; omega
  constructor
  · refine joined_jl ?_
    rw [jl_del, jl_ins, jl_one, List.append_assoc, List.take_left' h1, List.drop_left' h1, Nat.add_sub_cancel_left, List.drop_left' hm, List.take_append_drop]
  · refine joined_jl ?_
    rw [jl_slice, jl_ins, jl_one, List.append_assoc, List.drop_left' h1, Nat.add_sub_cancel_left, List.take_left' hm]
/-- What is deleted and put in again. -/
theorem back_del (s : ByteArray) (lo hi : Nat) (h1 : lo ≤ hi) (h2 : hi ≤ s.size) : joined (insP (delP (onePiece s) lo hi) lo (s.extract lo hi)) = s := by
  have hs : s.data.toList.length = s.size := rfl
  have h3 : (s.data.toList.take lo).length = lo := by rw [List.length_take]; omega
  refine joined_jl ?_
  rw [jl_ins, jl_del, jl_one, ext_list, List.take_left' h3, List.drop_left' h3, List.drop_drop, Nat.add_sub_cancel' h1]
  have e : s.data.toList.take lo ++ (s.data.toList.take hi).drop lo = s.data.toList.take hi := by
    have := List.take_append_drop lo (s.data.toList.take hi)
    rw [List.take_take, Nat.min_eq_left h1] at this
    exact this
  rw [e, List.take_append_drop]
theorem len_one (s : ByteArray) : (onePiece s).length ≤ 1 := one_le s

/-- The array's cells stand in every later world. -/
theorem two_new (w : World) (x0 x1 : Int) : w.heap.size < (w.alloc (.cells #[.int .u16 x0, .int .u16 x1] 23)).heap.size ∧
    ∀ W, Below (w.alloc (.cells #[.int .u16 x0, .int .u16 x1] 23)).heap.size (w.alloc (.cells #[.int .u16 x0, .int .u16 x1] 23)) W → W.cell? ⟨w.heap.size, 0, none⟩ = some (.int .u16 x0) ∧ W.cell? ⟨w.heap.size, 1, none⟩ = some (.int .u16 x1) := by
  have hlt : w.heap.size < (w.alloc (.cells #[.int .u16 x0, .int .u16 x1] 23)).heap.size := by simp
  exact ⟨hlt, fun W hb => ⟨(hb.cell (p := ⟨w.heap.size, 0, none⟩) hlt).trans (by simp), (hb.cell (p := ⟨w.heap.size, 1, none⟩) hlt).trans (by simp)⟩⟩
theorem two_below {A W : World} {b : Nat} {u v : Value} (h : A.cell? ⟨b, 0, none⟩ = some u ∧ A.cell? ⟨b, 1, none⟩ = some v) (hb : Below A.heap.size A W) : W.cell? ⟨b, 0, none⟩ = some u ∧ W.cell? ⟨b, 1, none⟩ = some v :=
  ⟨(hb.cell (p := ⟨b, 0, none⟩) (World.block_lt_of_cell? _ _ h.1)).trans h.1, (hb.cell (p := ⟨b, 1, none⟩) (World.block_lt_of_cell? _ _ h.2)).trans h.2⟩
set_option maxHeartbeats 2000000 in
set_option maxRecDepth 100000 in
theorem PiecesBack_any (s more : ByteArray) (x0 x1 : Int) (w : World) (h0 : 0 ≤ x0) (h1 : 0 ≤ x1) (hx0 : x0 ≤ 65535) (hx1 : x1 ≤ 65535) (hms : s.size ≤ 9223372036854775807) (hmm : more.size ≤ 9223372036854775807) :
    Calls Try.prog 3 #[.string s, .string more, .agg #[.int .u16 x0, .int .u16 x1]] w fun e w' => e = .returned (.bool true) ∧ Below w.heap.size w w' := by
  have HB := hide (show Below w.heap.size w (w.alloc (.cells #[.int .u16 x0, .int .u16 x1] 23)) from (Below.refl _ _).alloc (Nat.le_refl _) _)
  by_cases hsm : 2000 < s.size
  · go_enter Try.func3, Try.ntmps3
    go_wp2_with fail
    refine (put_any _).mono ?_; rintro e w1 ⟨rfl, b1⟩
    go_wp2
    go_ret
    exact ⟨rfl, HB.out.trans (b1.mono HB.out.size)⟩
  by_cases hmo : 2000 < more.size
  · go_enter Try.func3, Try.ntmps3
    go_wp2_with fail
    refine (put_any _).mono ?_; rintro e w1 ⟨rfl, b1⟩
    go_wp2
    go_ret
    exact ⟨rfl, HB.out.trans (b1.mono HB.out.size)⟩
  obtain ⟨a, ha⟩ : ∃ a : Nat, x0 % ((s.size : Int) + 1) = (a : Int) := ⟨(x0 % ((s.size : Int) + 1)).toNat, by have := Int.emod_nonneg x0 (show (s.size : Int) + 1 ≠ 0 by omega); omega⟩
  obtain ⟨b, hb⟩ : ∃ b : Nat, x1 % ((s.size : Int) + 1) = (b : Int) := ⟨(x1 % ((s.size : Int) + 1)).toNat, by have := Int.emod_nonneg x1 (show (s.size : Int) + 1 ≠ 0 by omega); omega⟩
  have ha9 : a ≤ s.size := by have := Int.emod_lt_of_pos x0 (show 0 < (s.size : Int) + 1 by omega); omega
  have hb9 : b ≤ s.size := by have := Int.emod_lt_of_pos x1 (show 0 < (s.size : Int) + 1 by omega); omega
  have hta : Int.tmod x0 ((s.size : Int) + 1) = (a : Int) := by rw [Int.tmod_eq_emod_of_nonneg h0]; exact ha
  have htb : Int.tmod x1 ((s.size : Int) + 1) = (b : Int) := by rw [Int.tmod_eq_emod_of_nonneg h1]; exact hb
  obtain ⟨lo, hlo⟩ : ∃ lo : Nat, min (a : Int) (b : Int) = (lo : Int) := ⟨min a b, by omega⟩
  obtain ⟨hi, hhi⟩ : ∃ hi : Nat, max (a : Int) (b : Int) = (hi : Int) := ⟨max a b, by omega⟩
  have hlh : lo ≤ hi := by omega
  have hhs : hi ≤ s.size := by omega
  have HC0 := hide (two_new w x0 x1)
  go_enter Try.func3, Try.ntmps3
  go_wp2_with fail
  refine (new_any s _ (by omega)).mono ?_; rintro e w1 ⟨pt, rfl, t1, b1⟩
  replace HB := hide (HB.out.trans (b1.mono (Nat.le_of_lt HC0.out.1)))
  have HC := hide (HC0.out.2 w1 b1)
  have TT := hide t1
  clear t1 b1 HC0
  obtain ⟨c0, c1⟩ := HC.out
  go_wp2_with fail
  have HTo := hide (tot_one s)
  have HLo := hide (len_one s)
  have HBI := hide (back_ins s more a ha9)
  have HBD := hide (back_del s lo hi hlh hhs)
  have HSX := hide (show (s.extract lo hi).size = hi - lo by rw [ByteArray.size_extract]; omega)
  refine (Insert_any pt _ a more _ TT.out (by rw [HTo.out]; omega) (by rw [HTo.out]; omega) (by have := HLo.out; omega)).mono ?_; rintro e w2 ⟨pu, rfl, t1, b1⟩
  have HTu := hide (show total (insP (onePiece s) a more) = s.size + more.size by rw [total_ins, tot_one])
  have HLu := hide (show (insP (onePiece s) a more).length ≤ 3 by have := len_ins (onePiece s) a more; have := len_one s; omega)
  obtain ⟨zU, hzU⟩ : ∃ z, insP (onePiece s) a more = z := ⟨_, rfl⟩
  rw [hzU] at t1 HTu HLu HBI
  clear hzU
  have TU := hide t1
  replace TT := hide (TT.out.below b1)
  replace HC := hide (two_below HC.out b1)
  replace HB := hide (HB.out.trans (b1.mono HB.out.size))
  clear t1 b1 c0 c1
  go_wp2_with fail
  have hadd : (a : Int) + (more.size : Int) = ((a + more.size : Nat) : Int) := by omega
  rw [hadd]
  refine (Delete_any pu _ a (a + more.size) _ TU.out (by omega) (by rw [HTu.out]; omega) (by rw [HTu.out]; omega) (by have := HLu.out; omega)).mono ?_; rintro e w3 ⟨pv, rfl, t1, b1⟩
  have HTv := hide (show total (delP zU a (a + more.size)) ≤ 1048576 by rw [total_del _ _ _ (by omega) (by rw [HTu.out]; omega), HTu.out]; omega)
  have HLv := hide (show (delP zU a (a + more.size)).length ≤ 1048576 by have := len_del zU a (a + more.size); have := HLu.out; omega)
  have TV := hide t1
  replace TT := hide (TT.out.below b1)
  replace TU := hide (TU.out.below b1)
  replace HC := hide (two_below HC.out b1)
  replace HB := hide (HB.out.trans (b1.mono HB.out.size))
  clear t1 b1 hadd
  obtain ⟨c0, c1⟩ := HC.out
  go_wp2_with fail
  refine (Delete_any pt _ lo hi _ TT.out hlh (by rw [HTo.out]; omega) (by rw [HTo.out]; omega) (by have := HLo.out; omega)).mono ?_; rintro e w4 ⟨pw, rfl, t1, b1⟩
  have HTw := hide (show total (delP (onePiece s) lo hi) = s.size - (hi - lo) by rw [total_del _ _ _ hlh (by rw [tot_one]; omega), tot_one])
  have HLw := hide (show (delP (onePiece s) lo hi).length ≤ 2 by have := len_del (onePiece s) lo hi; have := len_one s; omega)
  obtain ⟨zW, hzW⟩ : ∃ z, delP (onePiece s) lo hi = z := ⟨_, rfl⟩
  rw [hzW] at t1 HTw HLw HBD
  clear hzW
  have TW := hide t1
  replace TV := hide (TV.out.below b1)
  replace TU := hide (TU.out.below b1)
  replace HB := hide (HB.out.trans (b1.mono HB.out.size))
  clear t1 b1 c0 c1 TT
  go_wp2_with fail
  refine (Insert_any pw _ lo (s.extract lo hi) _ TW.out (by rw [HTw.out]; omega) (by rw [HTw.out, HSX.out]; omega) (by have := HLw.out; omega)).mono ?_; rintro e w5 ⟨px, rfl, t1, b1⟩
  have HTx := hide (show total (insP zW lo (s.extract lo hi)) ≤ 1048576 by rw [total_ins, HTw.out, HSX.out]; omega)
  have HLx := hide (show (insP zW lo (s.extract lo hi)).length ≤ 1048576 by have := len_ins zW lo (s.extract lo hi); have := HLw.out; omega)
  have TX := hide t1
  replace TW := hide (TW.out.below b1)
  replace TV := hide (TV.out.below b1)
  replace TU := hide (TU.out.below b1)
  replace HB := hide (HB.out.trans (b1.mono HB.out.size))
  clear t1 b1
  go_wp2_with fail
  refine (str_is pv _ s _ TV.out HTv.out HLv.out HBI.out.1).mono ?_; rintro e w6 ⟨rfl, b1⟩
  replace TX := hide (TX.out.below b1)
  replace TW := hide (TW.out.below b1)
  replace TU := hide (TU.out.below b1)
  replace HB := hide (HB.out.trans (b1.mono HB.out.size))
  clear b1 TV
  go_wp2_with fail
  refine (str_is px _ s _ TX.out HTx.out HLx.out HBD.out).mono ?_; rintro e w7 ⟨rfl, b1⟩
  replace TW := hide (TW.out.below b1)
  replace TU := hide (TU.out.below b1)
  replace HB := hide (HB.out.trans (b1.mono HB.out.size))
  clear b1 TX
  go_wp2_with fail
  refine (len_is pu _ ((s.size : Int) + (more.size : Int)) _ TU.out (by rw [HTu.out]; omega)).mono ?_; rintro e w8 ⟨rfl, b1⟩
  replace TW := hide (TW.out.below b1)
  replace TU := hide (TU.out.below b1)
  replace HB := hide (HB.out.trans (b1.mono HB.out.size))
  clear b1
  go_wp2_with fail
  refine (len_is pw _ ((s.size : Int) - ((hi : Int) - (lo : Int))) _ TW.out (by rw [HTw.out]; omega)).mono ?_; rintro e w9 ⟨rfl, b1⟩
  replace TU := hide (TU.out.below b1)
  replace HB := hide (HB.out.trans (b1.mono HB.out.size))
  clear b1 TW
  go_wp2_with fail
  have hadd : (a : Int) + (more.size : Int) = ((a + more.size : Nat) : Int) := by omega
  rw [hadd]
  refine (Slice_any pu _ a (a + more.size) more _ TU.out (by omega) (by rw [HTu.out]; omega) (by rw [HTu.out]; omega) (by have := HLu.out; omega) HBI.out.2).mono ?_; rintro e w10 ⟨rfl, b1⟩
  replace HB := hide (HB.out.trans (b1.mono HB.out.size))
  clear b1 hadd
  go_wp2_with fail
  refine (put_any _).mono ?_; rintro e w11 ⟨rfl, b1⟩
  replace HB := hide (HB.out.trans (b1.mono HB.out.size))
  go_wp2
  go_ret
  exact ⟨rfl, HB.out⟩
end Go.Proofs.Ytmllbaacjodccaa
