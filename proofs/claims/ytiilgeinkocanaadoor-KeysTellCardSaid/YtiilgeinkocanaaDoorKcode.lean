/- Contract of code of keys. -/
import Derived.Test.YtiilgeinkocanaaDoorKesc
import Derived.Test.YtiilgeinkocanaaDoorShelf
namespace Go.Proofs.YtiilgeinkocanaaDoor
open Go.RowKit

theorem next_0 (s : ByteArray) (w : World) (hs : s.size ≤ 1048576) (h : 0 < s.size) (hT : UTabs w) (b : Bool) (hb : (dec3 s 0).2.2 = b) :
    Calls Tryd.prog 54 #[.string s, .int .i64 0] w fun e w' => e = .returned (.tuple #[.int .i32 (Utf8.decode s 0).1, .int .i64 (Utf8.decode s 0).2, .bool b]) ∧ Below w.heap.size w w' := by
  have h1 := next_any s 0 w hs h hT
  subst hb
  exact h1
theorem eq_decK (n m : Nat) : ((n : Int) == (m : Int)) = decide (n = m) := by
  rw [Bool.eq_iff_iff]; simp; omega
theorem whole_yes {s : ByteArray} (h : wholeB s = true) : (dec3 s 0).2.2 = true ∧ (((Utf8.decode s 0).2 : Int) == (s.size : Int)) = true := by
  unfold wholeB at h
  simp only [Bool.and_eq_true, decide_eq_true_eq] at h
  exact ⟨h.1, by rw [eq_decK]; simpa using h.2⟩
theorem whole_two {s : ByteArray} (h : wholeB s = false) : ((dec3 s 0).2.2 = false) ∨ ((dec3 s 0).2.2 = true ∧ (((Utf8.decode s 0).2 : Int) == (s.size : Int)) = false) := by
  unfold wholeB at h
  cases hb : (dec3 s 0).2.2
  · exact .inl rfl
  · rw [hb] at h
    refine .inr ⟨rfl, ?_⟩
    rw [eq_decK]
    simpa using h
/-- What CutPrefix tells of an escape ahead. -/
theorem cut_esc {s : ByteArray} (h : 0 < s.size) : ((⟨(Lib.trimPrefix s.data.toList [27]).toArray⟩ : ByteArray), Lib.hasPrefix s.data.toList [27]) = if s.get! 0 = 27 then (s.extract 1 s.size, true) else (s, false) := by
  obtain ⟨l⟩ := s
  obtain ⟨l⟩ := l
  cases l with
  | nil => exact absurd h (by decide)
  | cons a l =>
    have e0 : (⟨⟨a :: l⟩⟩ : ByteArray).get! 0 = a := rfl
    rw [e0]
    unfold Lib.trimPrefix Lib.hasPrefix
    by_cases ha : a = 27
    · subst ha
      rw [if_pos rfl]
      have e1 : List.isPrefixOf [27] (27 :: l) = true := by simp [List.isPrefixOf]
      rw [show (⟨(27 :: l : List UInt8)⟩ : Array UInt8).toList = 27 :: l from rfl, e1, if_pos rfl]
      congr 1
      apply ByteArray.ext
      apply Array.ext'
      simp only [ByteArray.data_extract, Array.toList_extract, List.extract_eq_take_drop]
      show l = List.take _ (List.drop 1 (27 :: l))
      rw [List.drop_one, List.tail_cons, List.take_of_length_le]
      show l.length ≤ (27 :: l).length - 1
      simp
    · rw [if_neg ha]
      have e1 : List.isPrefixOf [27] (a :: l) = false := by simp [List.isPrefixOf]; exact fun e => ha e.symm
      rw [show (⟨(a :: l : List UInt8)⟩ : Array UInt8).toList = a :: l from rfl, e1]
      rfl
theorem str_size (t : ByteArray) (x : Int) : (t ++ strOfNums [x]).size = t.size + 1 := by rw [join_size, one_size]
set_option maxRecDepth 100000 in
set_option maxHeartbeats 2000000 in
theorem code_alt (D : Nat) (c : Value) (s : ByteArray) (x : Int) (w : World) (hT : UTabs w) (h0 : 0 ≤ x) (h1 : x ≤ 255) (hs : SafeB D) (hz : 0 < s.size) (hz9 : s.size ≤ 1000000) (hs27 : s.get! 0 = 27) (h : Blk w D 46 [c]) :
    Calls Tryd.prog 30 #[.pointer (some ⟨D, 0, none⟩), .string s, .int .u8 x] w (WPost D (codeK true s (s.extract 1 s.size) x) w) := by
  obtain ⟨t, ht⟩ : ∃ t, (s.extract 1 s.size) = t := ⟨_, rfl⟩
  have hce := cut_esc hz
  rw [if_pos hs27, ht] at hce
  have hcut : ∀ W, Calls Tryd.prog 53 #[.string s, .string ⟨#[27]⟩] W fun e w' => e = .returned (.tuple #[.string t, .bool true]) ∧ W = w' := fun W => (Tryd.strings_CutPrefix s ⟨#[27]⟩ W).mono fun e w' hh => ⟨by rw [hh.1]; have := hce; simp only [Prod.mk.injEq] at this; rw [show (⟨#[27]⟩ : ByteArray).data.toList = [27] from rfl, this.1, this.2], hh.2.symm⟩
  rw [ht]
  have htz : t.size ≤ 1000000 := by rw [← ht]; rw [ByteArray.size_extract]; omega
  obtain ⟨u, hu⟩ : ∃ u, t ++ strOfNums [x] = u := ⟨_, rfl⟩
  have huz : u.size = t.size + 1 := by rw [← hu, str_size]
  have hA := (Below.refl w.heap.size w).alloc (Nat.le_refl _) (.cells #[.int .u8 x] 5)
  have HT1 := hide (hT.below hA)
  have HD1 := hide (h.alloc (.cells #[.int .u8 x] 5))
  have HX1 := hide (Ex.of_below hA [D])
  have hcv := fun n hn => conv_atK (w := w) (W := w.alloc (.cells #[.int .u8 x] 5)) x n rfl hn
  have hsz1 : (strOfNums [x]).size = 1 := rfl
  have hsz9 := hz9
  have HU := hide hu
  have HCUT := hide hcut
  have HTS := hide ht
  have HN := hide (fun b hb => next_0 u _ (by omega) (by omega) HT1.out b hb)
  have HC := hide (show codeK true s t x = if wholeB u = true then (⟨#[]⟩, kLet (if true = true then 7 else 1) (Utf8.decode u 0).1) else if begB u = true then (s ++ strOfNums [x], []) else thenK (kBad s) x by unfold codeK; rw [hu])
  clear hT h hA hcut hce ht hz huz hu hs27
  cases hw : wholeB u
  case true =>
    have HR := hide (show codeK true s t x = (⟨#[]⟩, kLet 7 (Utf8.decode u 0).1) by rw [HC.out, if_pos hw]; rfl)
    obtain ⟨hd1, hd2⟩ := whole_yes hw
    have HN1 := hide (HN.out true hd1)
    clear hw hd1
    go_enter Tryd.func30, Tryd.ntmps30
    go_wp2_with fail
    refine (HCUT.out _).mono ?_
    rintro e w1 ⟨rfl, rfl⟩
    go_wp2_with fail
    rw [HU.out]
    refine HN1.out.mono ?_
    rintro e w2 ⟨rfl, hb2⟩
    have HD2 := hide (HD1.out.below hb2)
    have HX2 := hide (ex_below HX1.out hb2)
    clear hb2
    go_wp2_with fail
    refine (letter_any 7 _ _).mono ?_
    rintro e w3 ⟨rfl, rfl⟩
    have HD3 := hide (HD2.out.alloc (.cells #[.int .i64 7, .int .i32 (Utf8.decode u 0).1, .string ⟨#[]⟩] 26))
    go_wp2_with fail
    refine (done_any D _ _ _ HD3.out).mono ?_
    rintro e w4 ⟨rfl, rfl⟩
    go_wp2_with fail
    go_ret
    rw [HR.out]
    exact wk_mk ((lit_own (k := ⟨7, (Utf8.decode u 0).1, ⟨#[]⟩⟩) HX2.out.size).off HD3.out decKey _ _) (fun e => by cases e) (HD3.out.set 0 _) (ex_set (ex_alloc HX2.out _) _ _)
  have HW := hide hw
  cases hbg : begB u
  case true =>
    have HR := hide (show codeK true s t x = (s ++ strOfNums [x], []) by rw [HC.out, if_neg (by rw [hw]; simp), if_pos hbg])
    rcases whole_two hw with hd1 | ⟨hd1, hd2⟩
    all_goals
      have HN1 := hide (HN.out _ hd1)
      clear hd1
      go_enter Tryd.func30, Tryd.ntmps30
      go_wp2_with fail
      refine (HCUT.out _).mono ?_
      rintro e w1 ⟨rfl, rfl⟩
      go_wp2_with fail
      rw [HU.out]
      refine HN1.out.mono ?_
      rintro e w2 ⟨rfl, hb2⟩
      have HD2 := hide (HD1.out.below hb2)
      have HX2 := hide (ex_below HX1.out hb2)
      have HT2 := hide (HT1.out.below hb2)
      clear hb2
      have HBG := hide (begins_any u _ HT2.out)
      rw [hbg] at HBG
      go_wp2_with fail
      refine HBG.out.mono ?_
      rintro e w3 ⟨rfl, hb3⟩
      have HD3 := hide (HD2.out.below hb3)
      have HX3 := hide (ex_below HX2.out hb3)
      have hal := (Below.refl w3.heap.size w3).alloc (Nat.le_refl _) (.cells #[.int .u8 x] 5)
      have HD4 := hide (HD3.out.below hal)
      have HX4 := hide (ex_below HX3.out hal)
      have hcv2 := fun n hn => conv_atK (w := w3) (W := w3.alloc (.cells #[.int .u8 x] 5)) x n rfl hn
      clear hb3 hal
      go_wp2_with fail
      refine (wait_any D _ _ _ HD4.out).mono ?_
      rintro e w4 ⟨rfl, rfl⟩
      go_wp2_with fail
      go_ret
      rw [HR.out]
      exact wk_mk (OwnK.nil _ _) (fun _ => rfl) (HD4.out.set 0 _) (ex_set HX4.out _ _)
  case false =>
    have HR := hide (show codeK true s t x = thenK (kBad s) x by rw [HC.out, if_neg (by rw [hw]; simp), if_neg (by rw [hbg]; simp)])
    rcases whole_two hw with hd1 | ⟨hd1, hd2⟩
    all_goals
      have HN1 := hide (HN.out _ hd1)
      clear hd1
      go_enter Tryd.func30, Tryd.ntmps30
      go_wp2_with fail
      refine (HCUT.out _).mono ?_
      rintro e w1 ⟨rfl, rfl⟩
      go_wp2_with fail
      rw [HU.out]
      refine HN1.out.mono ?_
      rintro e w2 ⟨rfl, hb2⟩
      have HD2 := hide (HD1.out.below hb2)
      have HX2 := hide (ex_below HX1.out hb2)
      have HT2 := hide (HT1.out.below hb2)
      clear hb2
      have HBG := hide (begins_any u _ HT2.out)
      rw [hbg] at HBG
      go_wp2_with fail
      refine HBG.out.mono ?_
      rintro e w3 ⟨rfl, hb3⟩
      have HD3 := hide (HD2.out.below hb3)
      have HX3 := hide (ex_below HX2.out hb3)
      have HT3 := hide (HT2.out.below hb3)
      clear hb3
      go_wp2_with fail
      refine (invalid_any _ _).mono ?_
      rintro e w4 ⟨rfl, rfl⟩
      have hal := (Below.refl w3.heap.size w3).alloc (Nat.le_refl _) (.cells #[.int .i64 0, .int .i32 0, .string s] 26)
      have HD4 := hide (HD3.out.below hal)
      have HX4 := hide (ex_below HX3.out hal)
      have HT4 := hide (HT3.out.below hal)
      have HO4 := hide (lit_own (k := ⟨0, 0, s⟩) HX3.out.size)
      clear hal
      go_wp2_with fail
      refine (then_any D w.heap.size _ _ (kBad s) x _ HT4.out h0 h1 HO4.out (show (kBad s).length ≤ 10 from (by simp [kBad])) HX4.out.size hs HD4.out).mono ?_
      intro e w5 hp
      have HP := hide (then_own HX4.out (then_ne x (fun e => by cases e)) hp)
      clear hp
      obtain ⟨v, rfl, h5⟩ := HP.out
      go_wp2_with fail
      go_ret
      rw [HR.out]
      exact ⟨_, rfl, h5⟩
set_option maxRecDepth 100000 in
set_option maxHeartbeats 2000000 in
theorem code_bare (D : Nat) (c : Value) (s : ByteArray) (x : Int) (w : World) (hT : UTabs w) (h0 : 0 ≤ x) (h1 : x ≤ 255) (hs : SafeB D) (hz : 0 < s.size) (hz9 : s.size ≤ 1000000) (hs27 : s.get! 0 ≠ 27) (h : Blk w D 46 [c]) :
    Calls Tryd.prog 30 #[.pointer (some ⟨D, 0, none⟩), .string s, .int .u8 x] w (WPost D (codeK false s s x) w) := by
  have hce := cut_esc hz
  rw [if_neg hs27] at hce
  have hcut : ∀ W, Calls Tryd.prog 53 #[.string s, .string ⟨#[27]⟩] W fun e w' => e = .returned (.tuple #[.string s, .bool false]) ∧ W = w' := fun W => (Tryd.strings_CutPrefix s ⟨#[27]⟩ W).mono fun e w' hh => ⟨by rw [hh.1]; have := hce; simp only [Prod.mk.injEq] at this; rw [show (⟨#[27]⟩ : ByteArray).data.toList = [27] from rfl, this.1, this.2], hh.2.symm⟩
  have htz : s.size ≤ 1000000 := hz9
  obtain ⟨u, hu⟩ : ∃ u, s ++ strOfNums [x] = u := ⟨_, rfl⟩
  have huz : u.size = s.size + 1 := by rw [← hu, str_size]
  have hA := (Below.refl w.heap.size w).alloc (Nat.le_refl _) (.cells #[.int .u8 x] 5)
  have HT1 := hide (hT.below hA)
  have HD1 := hide (h.alloc (.cells #[.int .u8 x] 5))
  have HX1 := hide (Ex.of_below hA [D])
  have hcv := fun n hn => conv_atK (w := w) (W := w.alloc (.cells #[.int .u8 x] 5)) x n rfl hn
  have hsz1 : (strOfNums [x]).size = 1 := rfl
  have hsz9 := hz9
  have HU := hide hu
  have HCUT := hide hcut
  have HN := hide (fun b hb => next_0 u _ (by omega) (by omega) HT1.out b hb)
  have HC := hide (show codeK false s s x = if wholeB u = true then (⟨#[]⟩, kLet (if false = true then 7 else 1) (Utf8.decode u 0).1) else if begB u = true then (s ++ strOfNums [x], []) else thenK (kBad s) x by unfold codeK; rw [hu])
  clear hT h hA hcut hce hz huz hu hs27
  cases hw : wholeB u
  case true =>
    have HR := hide (show codeK false s s x = (⟨#[]⟩, kLet 1 (Utf8.decode u 0).1) by rw [HC.out, if_pos hw]; rfl)
    obtain ⟨hd1, hd2⟩ := whole_yes hw
    have HN1 := hide (HN.out true hd1)
    clear hw hd1
    go_enter Tryd.func30, Tryd.ntmps30
    go_wp2_with fail
    refine (HCUT.out _).mono ?_
    rintro e w1 ⟨rfl, rfl⟩
    go_wp2_with fail
    rw [HU.out]
    refine HN1.out.mono ?_
    rintro e w2 ⟨rfl, hb2⟩
    have HD2 := hide (HD1.out.below hb2)
    have HX2 := hide (ex_below HX1.out hb2)
    clear hb2
    go_wp2_with fail
    refine (letter_any 1 _ _).mono ?_
    rintro e w3 ⟨rfl, rfl⟩
    have HD3 := hide (HD2.out.alloc (.cells #[.int .i64 1, .int .i32 (Utf8.decode u 0).1, .string ⟨#[]⟩] 26))
    go_wp2_with fail
    refine (done_any D _ _ _ HD3.out).mono ?_
    rintro e w4 ⟨rfl, rfl⟩
    go_wp2_with fail
    go_ret
    rw [HR.out]
    exact wk_mk ((lit_own (k := ⟨1, (Utf8.decode u 0).1, ⟨#[]⟩⟩) HX2.out.size).off HD3.out decKey _ _) (fun e => by cases e) (HD3.out.set 0 _) (ex_set (ex_alloc HX2.out _) _ _)
  have HW := hide hw
  cases hbg : begB u
  case true =>
    have HR := hide (show codeK false s s x = (s ++ strOfNums [x], []) by rw [HC.out, if_neg (by rw [hw]; simp), if_pos hbg])
    rcases whole_two hw with hd1 | ⟨hd1, hd2⟩
    all_goals
      have HN1 := hide (HN.out _ hd1)
      clear hd1
      go_enter Tryd.func30, Tryd.ntmps30
      go_wp2_with fail
      refine (HCUT.out _).mono ?_
      rintro e w1 ⟨rfl, rfl⟩
      go_wp2_with fail
      rw [HU.out]
      refine HN1.out.mono ?_
      rintro e w2 ⟨rfl, hb2⟩
      have HD2 := hide (HD1.out.below hb2)
      have HX2 := hide (ex_below HX1.out hb2)
      have HT2 := hide (HT1.out.below hb2)
      clear hb2
      have HBG := hide (begins_any u _ HT2.out)
      rw [hbg] at HBG
      go_wp2_with fail
      refine HBG.out.mono ?_
      rintro e w3 ⟨rfl, hb3⟩
      have HD3 := hide (HD2.out.below hb3)
      have HX3 := hide (ex_below HX2.out hb3)
      have hal := (Below.refl w3.heap.size w3).alloc (Nat.le_refl _) (.cells #[.int .u8 x] 5)
      have HD4 := hide (HD3.out.below hal)
      have HX4 := hide (ex_below HX3.out hal)
      have hcv2 := fun n hn => conv_atK (w := w3) (W := w3.alloc (.cells #[.int .u8 x] 5)) x n rfl hn
      clear hb3 hal
      go_wp2_with fail
      refine (wait_any D _ _ _ HD4.out).mono ?_
      rintro e w4 ⟨rfl, rfl⟩
      go_wp2_with fail
      go_ret
      rw [HR.out]
      exact wk_mk (OwnK.nil _ _) (fun _ => rfl) (HD4.out.set 0 _) (ex_set HX4.out _ _)
  case false =>
    have HR := hide (show codeK false s s x = thenK (kBad s) x by rw [HC.out, if_neg (by rw [hw]; simp), if_neg (by rw [hbg]; simp)])
    rcases whole_two hw with hd1 | ⟨hd1, hd2⟩
    all_goals
      have HN1 := hide (HN.out _ hd1)
      clear hd1
      go_enter Tryd.func30, Tryd.ntmps30
      go_wp2_with fail
      refine (HCUT.out _).mono ?_
      rintro e w1 ⟨rfl, rfl⟩
      go_wp2_with fail
      rw [HU.out]
      refine HN1.out.mono ?_
      rintro e w2 ⟨rfl, hb2⟩
      have HD2 := hide (HD1.out.below hb2)
      have HX2 := hide (ex_below HX1.out hb2)
      have HT2 := hide (HT1.out.below hb2)
      clear hb2
      have HBG := hide (begins_any u _ HT2.out)
      rw [hbg] at HBG
      go_wp2_with fail
      refine HBG.out.mono ?_
      rintro e w3 ⟨rfl, hb3⟩
      have HD3 := hide (HD2.out.below hb3)
      have HX3 := hide (ex_below HX2.out hb3)
      have HT3 := hide (HT2.out.below hb3)
      clear hb3
      go_wp2_with fail
      refine (invalid_any _ _).mono ?_
      rintro e w4 ⟨rfl, rfl⟩
      have hal := (Below.refl w3.heap.size w3).alloc (Nat.le_refl _) (.cells #[.int .i64 0, .int .i32 0, .string s] 26)
      have HD4 := hide (HD3.out.below hal)
      have HX4 := hide (ex_below HX3.out hal)
      have HT4 := hide (HT3.out.below hal)
      have HO4 := hide (lit_own (k := ⟨0, 0, s⟩) HX3.out.size)
      clear hal
      go_wp2_with fail
      refine (then_any D w.heap.size _ _ (kBad s) x _ HT4.out h0 h1 HO4.out (show (kBad s).length ≤ 10 from (by simp [kBad])) HX4.out.size hs HD4.out).mono ?_
      intro e w5 hp
      have HP := hide (then_own HX4.out (then_ne x (fun e => by cases e)) hp)
      clear hp
      obtain ⟨v, rfl, h5⟩ := HP.out
      go_wp2_with fail
      go_ret
      rw [HR.out]
      exact ⟨_, rfl, h5⟩
end Go.Proofs.YtiilgeinkocanaaDoor
