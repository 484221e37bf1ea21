/- The walk of limnerlaw33.SuggestParts. -/
import Derived.Test.YtkjfgljalalffaaEntry
namespace Go.Proofs.Ytkjfgljalalffaa
open Go.RowKit

theorem partEnd_ge (s : ByteArray) : ∀ (f pos : Nat) (c : Int), pos ≤ partEnd s f pos c
  | 0, pos, c => Nat.le_refl _
  | f + 1, pos, c => by
    simp only [partEnd]
    split
    · split
      · exact Nat.le_refl _
      · have := partEnd_ge s f (pos + (Utf8.decode s pos).2) (cls (Utf8.decode s pos).1); omega
    · exact Nat.le_refl _
theorem partEnd_le (s : ByteArray) : ∀ (f pos : Nat) (c : Int), pos ≤ s.size → partEnd s f pos c ≤ s.size
  | 0, pos, c, h => h
  | f + 1, pos, c, h => by
    simp only [partEnd]
    split
    · rename_i hp
      split
      · exact h
      · exact partEnd_le s f _ _ (dec_in s pos hp).2
    · exact h
theorem partEnd_pos {s : ByteArray} (h : 0 < s.size) : 1 ≤ partEnd s s.size 0 0 := by
  obtain ⟨f, hf⟩ : ∃ f, s.size = f + 1 := ⟨s.size - 1, by omega⟩
  rw [hf, partEnd_go (by omega) (by simp)]
  have := partEnd_ge s f (0 + (Utf8.decode s 0).2) (cls (Utf8.decode s 0).1)
  have := dec_in s 0 h
  omega

theorem ext_list (e : ByteArray) (a b : Nat) : (e.extract a b).data.toList = (e.data.toList.drop a).take (b - a) := by
  rw [Lib.extract_eq]
theorem ext_cat (e : ByteArray) (a b c : Nat) (h1 : a ≤ b) (h2 : b ≤ c) : e.extract a b ++ e.extract b c = e.extract a c := by
  apply WideShapes.bytes_inj
  rw [ByteArray.data_append, Array.toList_append, ext_list, ext_list, ext_list]
  rw [show c - a = (b - a) + (c - b) by omega, List.take_add]
  rw [List.drop_drop, show a + (b - a) = b by omega]
theorem ext_ext (e : ByteArray) (a b c d : Nat) (h : a + d ≤ b) : (e.extract a b).extract c d = e.extract (a + c) (a + d) := by
  apply WideShapes.bytes_inj
  rw [ext_list, ext_list, ext_list, List.drop_take, List.take_take, List.drop_drop]
  congr 1; omega

/-- What one round of the law does: e the entry, p where the text ends. -/
theorem parts_round {e s : ByteArray} {p : Nat} (hs : s = e.extract 0 p) (hp : 1 ≤ p) (hpe : p < e.size) :
    ofS [e] s = e.extract p e.size ∧ ∃ q, 1 ≤ q ∧ p + q ≤ e.size ∧ partS (e.extract p e.size) = e.extract p (p + q) := by
  have hss : s.size = p := by rw [hs, ByteArray.size_extract]; omega
  constructor
  · have hh : hit e s = true := by
      simp only [hit, Bool.and_eq_true, decide_eq_true_eq]
      refine ⟨by omega, ?_⟩
      rw [hss, ← hs]; simp
    rw [ofS, if_neg (by omega)]
    show (if hit (([e] : List ByteArray)[0]?.getD ByteArray.empty) s = true then _ else _) = _
    rw [if_pos (show hit (([e] : List ByteArray)[0]?.getD ByteArray.empty) s = true from hh)]
    show e.extract s.size e.size = _
    rw [hss]
  · have hr : (e.extract p e.size).size = e.size - p := by rw [ByteArray.size_extract]; omega
    have h1 := partEnd_pos (s := e.extract p e.size) (by omega)
    have h2 := partEnd_le (e.extract p e.size) (e.extract p e.size).size 0 0 (Nat.zero_le _)
    refine ⟨_, h1, by omega, ?_⟩
    rw [partS, ext_ext _ _ _ _ _ (by omega)]
    rfl

set_option maxRecDepth 100000 in
set_option maxHeartbeats 1000000 in
theorem parts_main (e : ByteArray) (a : Int) (w : World) (h0 : 2 ≤ e.size) (h1 : e.size ≤ 200) (ha0 : 0 ≤ a) (ha1 : a ≤ 255) :
    Calls Try.prog 5 #[.string e, .int .u8 a] w fun e w' => e = .returned (.bool true) ∧ Below w.heap.size w w' := by
  obtain ⟨p0, hp0⟩ : ∃ p0 : Nat, a % ((e.size : Int) - 1) = (p0 : Int) := ⟨(a % ((e.size : Int) - 1)).toNat, (Int.toNat_of_nonneg (Int.emod_nonneg _ (by omega))).symm⟩
  have hp0e : (p0 : Int) < (e.size : Int) - 1 := by
    have := Int.emod_lt_of_pos a (show (0 : Int) < (e.size : Int) - 1 by omega)
    omega
  have HS := hide (show Strs (w.heap.size + 1) (w.alloc (.cells #[.string e] 9)) (.slice (some ⟨w.heap.size, 0, none⟩) 1 1) [e] from
    ⟨_, 1, rfl, .inr ⟨w.heap.size, 0, rfl, by omega, fun j hj => by rw [cell_first]; match j, hj with | 0, _ => rfl⟩⟩)
  go_enter Try.func5, Try.ntmps5
  go_wp2
  clear hp0
  go_loopw [6, 7] (fun sv t wr => ∃ (s : ByteArray) (p n : Nat), Hid (s = e.extract 0 p) ∧ s.size = p ∧ n + 1 ≤ p ∧ p ≤ e.size ∧ sv = .string s ∧ t = .int .i64 n ∧ Below (w.heap.size + 1) (w.alloc (.cells #[.string e] 9)) wr) (fun _ t _ => 300 - (intOf t).toNat)
  case atStart => exact ⟨_, 1 + p0, 0, rfl, by rw [ByteArray.size_extract]; omega, by omega, by omega, rfl, rfl, Below.refl _ _⟩
  case round =>
    obtain ⟨s, p, n, HE, hsp, hnp, hpe, rfl, rfl, hB⟩ := hrel
    have hsz := hB.size
    simp only [World.size_alloc] at hsz
    have HB := hide (((Below.refl _ w).alloc (Nat.le_refl _) (.cells #[.string e] 9)).trans (hB.mono (by omega)))
    by_cases hlt : p < e.size
    · obtain ⟨ho, q, hq1, hq2, hpart⟩ := parts_round HE.out (by omega) hlt
      obtain ⟨r, hr⟩ : ∃ r, r = e.extract p e.size := ⟨_, rfl⟩
      obtain ⟨x, hx⟩ : ∃ x, x = e.extract p (p + q) := ⟨_, rfl⟩
      rw [← hr] at ho hpart
      rw [← hx] at hpart
      have hrs : r.size = e.size - p := by rw [hr, ByteArray.size_extract]; omega
      have hxs : x.size = q := by rw [hx, ByteArray.size_extract]; omega
      have f1 : r.extract 0 x.size = x := by rw [hxs, hr, hx, ext_ext _ _ _ _ _ (by omega)]; rfl
      have f2 : s ++ r = e := by
        rw [HE.out, hr, ext_cat _ _ _ _ (by omega) (by omega), extract_all]
      have HCAT := hide (show s ++ x = e.extract 0 (p + q) by rw [HE.out, hx, ext_cat _ _ _ _ (by omega) (by omega)])
      have f3 : x.toList.isEmpty = false := by rw [empty_iff, hxs, decide_eq_false_iff_not]; omega
      have f4 : (s.toList == e.toList) = false := by
        cases hh : (s.toList == e.toList)
        · rfl
        · have := toList_eq hh
          rw [this] at hsp; omega
      have b1 : x.size ≤ r.size := by omega
      have b2 : s.size ≤ 200 := by omega
      have b3 : r.size ≤ 200 := by omega
      have hq : 1 ≤ x.size := by omega
      have hpq : p + x.size ≤ e.size := by omega
      have HXS := hide hxs
      have HO := hide ho
      have HP := hide hpart
      clear hr hx hrs hxs ho hpart
      go_wp2_with (first
        | (go_at_call 8; refine (of_any _ [e] _ _ (by simp) ((HS.out.below hB).mono hsz)).mono ?_; rw [HO.out]; rintro e w1 ⟨rfl, hb1⟩)
        | (go_at_call 10; refine (part_any _ _ (by omega)).mono ?_; rw [HP.out]; rintro e w2 ⟨rfl, hb2⟩))
      go_roundw
      case rel => exact ⟨_, p + x.size, n + 1, by rw [HXS.out]; exact HCAT.out, by rw [ByteArray.size_append, hsp], by omega, hpq, rfl, by go_num, hB.trans ((hb1.mono hsz).trans (hb2.mono (Nat.le_trans hsz hb1.size)))⟩
      case measure => simp [intOf]; omega
    · have hse : s = e := by
        have := HE.out
        rw [show p = e.size by omega, extract_all] at this
        exact this
      clear HE
      subst hse
      go_wp2_with (go_at_call 7; refine (told_any _).mono ?_; rintro e w4 ⟨rfl, hb4⟩)
      go_ret
      exact ⟨rfl, HB.out.trans (hb4.mono HB.out.size)⟩
set_option maxHeartbeats 1000000 in
/-- **limnerlaw33.SuggestParts answers true.** -/
theorem parts_any (e : ByteArray) (a : Int) (w : World) (hz : e.size ≤ 9223372036854775807) (ha0 : 0 ≤ a) (ha1 : a ≤ 255) :
    Calls Try.prog 5 #[.string e, .int .u8 a] w fun e w' => e = .returned (.bool true) ∧ Below w.heap.size w w' := by
  by_cases h0 : 2 ≤ e.size
  · by_cases h1 : e.size ≤ 200
    · exact parts_main e a w h0 h1 ha0 ha1
    · go_enter Try.func5, Try.ntmps5
      go_wp2_with (go_at_call 7; refine (told_any _).mono ?_; rintro e w4 ⟨rfl, hb4⟩)
      go_ret
      exact ⟨rfl, hb4⟩
  · go_enter Try.func5, Try.ntmps5
    go_wp2_with (go_at_call 7; refine (told_any _).mono ?_; rintro e w4 ⟨rfl, hb4⟩)
    go_ret
    exact ⟨rfl, hb4⟩
end Go.Proofs.Ytkjfgljalalffaa
