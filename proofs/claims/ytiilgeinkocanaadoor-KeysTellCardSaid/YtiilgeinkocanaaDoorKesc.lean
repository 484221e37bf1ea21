/- Contracts of escaped and third of keys. -/
import Derived.Test.YtiilgeinkocanaaDoorKthen
namespace Go.Proofs.YtiilgeinkocanaaDoor
open Go.RowKit

theorem then_own {D : Nat} {p : ByteArray × List Ky} {w W : World} {e : Ending} {w' : World} (hX : Ex [D] w W) (hne : p.2 ≠ []) (h : TPost w.heap.size D p W e w') : WPost D p w e w' := by
  obtain ⟨v, rfl, h1, h2, h3⟩ := h
  exact ⟨v, rfl, h1, fun e => absurd e hne, h2, hX.andU h3⟩
theorem then_ne {l : List Ky} (x : Int) (h : l ≠ []) : (thenK l x).2 ≠ [] := by
  unfold thenK
  simp [h]
set_option maxRecDepth 100000 in
set_option maxHeartbeats 2000000 in
theorem escaped_any (D : Nat) (c : Value) (x : Int) (w : World) (hT : UTabs w) (h0 : 0 ≤ x) (h1 : x ≤ 255) (hs : SafeB D) (h : Blk w D 46 [c]) :
    Calls Tryd.prog 26 #[.pointer (some ⟨D, 0, none⟩), .int .u8 x] w (WPost D (escK x) w) := by
  have HA := hide ((Below.refl w.heap.size w).alloc (Nat.le_refl _) (.cells #[.int .u8 x] 5))
  have HT := hide (hT.below HA.out)
  have HD := hide (h.alloc (.cells #[.int .u8 x] 5))
  have hcv := fun n hn => conv_atK (w := w) (W := w.alloc (.cells #[.int .u8 x] 5)) x n rfl hn
  clear hT h
  by_cases c91 : x = 91
  · subst c91
    have HR := hide (show escK 91 = (⟨#[27]⟩ ++ strOfNums [91], []) by decide +kernel)
    go_enter Tryd.func26, Tryd.ntmps26
    go_wp2_with fail
    refine (wait_any D _ _ _ HD.out).mono ?_
    rintro e w2 ⟨rfl, rfl⟩
    go_wp2_with fail
    go_ret
    rw [HR.out]
    exact wk_mk (OwnK.nil _ _) (fun _ => rfl) (HD.out.set 0 _) (ex_set (Ex.of_below HA.out _) _ _)
  by_cases c79 : x = 79
  · subst c79
    have HR := hide (show escK 79 = (⟨#[27]⟩ ++ strOfNums [79], []) by decide +kernel)
    go_enter Tryd.func26, Tryd.ntmps26
    go_wp2_with fail
    refine (wait_any D _ _ _ HD.out).mono ?_
    rintro e w2 ⟨rfl, rfl⟩
    go_wp2_with fail
    go_ret
    rw [HR.out]
    exact wk_mk (OwnK.nil _ _) (fun _ => rfl) (HD.out.set 0 _) (ex_set (Ex.of_below HA.out _) _ _)
  have b91 : (x == 91) = false := by simpa using c91
  have b79 : (x == 79) = false := by simpa using c79
  have HBg := hide (begins_any (strOfNums [x]) _ HT.out)
  cases hb : begB (strOfNums [x])
  case true =>
    have HR := hide (show escK x = (⟨#[27]⟩ ++ strOfNums [x], []) by unfold escK; rw [if_pos (.inr (.inr hb))]; rfl)
    rw [hb] at HBg
    clear hb c91 c79
    go_enter Tryd.func26, Tryd.ntmps26
    go_wp2_with fail
    refine HBg.out.mono ?_
    rintro e w1 ⟨rfl, hb1⟩
    have HD1 := hide (HD.out.below hb1)
    have HX1 := hide (ex_below (Ex.of_below HA.out [D]) hb1)
    clear hb1
    go_wp2_with fail
    refine (wait_any D _ _ _ HD1.out).mono ?_
    rintro e w2 ⟨rfl, rfl⟩
    go_wp2_with fail
    go_ret
    rw [HR.out]
    exact wk_mk (OwnK.nil _ _) (fun _ => rfl) (HD1.out.set 0 _) (ex_set HX1.out _ _)
  rw [hb] at HBg
  have HR1 := hide (show escK x = if 32 ≤ x ∧ x < 127 then (⟨#[]⟩, kLet 7 x) else thenK (kOne 5) x by unfold escK; rw [if_neg (by rw [hb]; simp; exact ⟨c91, c79⟩)])
  clear hb c91 c79
  by_cases d1 : 32 ≤ x ∧ x < 127
  · have HR := hide (show escK x = (⟨#[]⟩, kLet 7 x) by rw [HR1.out, if_pos d1])
    obtain ⟨d2, d3⟩ := d1
    go_enter Tryd.func26, Tryd.ntmps26
    go_wp2_with fail
    refine HBg.out.mono ?_
    rintro e w1 ⟨rfl, hb1⟩
    have HD1 := hide (HD.out.below hb1)
    have HX1 := hide (ex_below (Ex.of_below HA.out [D]) hb1)
    clear hb1
    go_wp2_with fail
    refine (letter_any 7 _ _).mono ?_
    rintro e w2 ⟨rfl, rfl⟩
    have HD2 := hide (HD1.out.alloc (.cells #[.int .i64 7, .int .i32 x, .string ⟨#[]⟩] 26))
    go_wp2_with fail
    refine (done_any D _ _ _ HD2.out).mono ?_
    rintro e w3 ⟨rfl, rfl⟩
    go_wp2_with fail
    go_ret
    rw [HR.out]
    exact wk_mk ((lit_own (k := ⟨7, x, ⟨#[]⟩⟩) HX1.out.size).off HD2.out decKey _ _) (fun e => by cases e) (HD2.out.set 0 _) (ex_set (ex_alloc HX1.out _) _ _)
  · have HR := hide (show escK x = thenK (kOne 5) x by rw [HR1.out, if_neg d1])
    have hlo : x < 32 ∨ 127 ≤ x := by omega
    clear d1
    rcases hlo with d1 | d1
    all_goals
      go_enter Tryd.func26, Tryd.ntmps26
      go_wp2_with fail
      refine HBg.out.mono ?_
      rintro e w1 ⟨rfl, hb1⟩
      have HD1 := hide (HD.out.below hb1)
      have HX1 := hide (ex_below (Ex.of_below HA.out [D]) hb1)
      have HT1 := hide (HT.out.below hb1)
      clear hb1
      go_wp2_with fail
      refine (one_any 5 _).mono ?_
      rintro e w2 ⟨rfl, rfl⟩
      have hal := (Below.refl w1.heap.size w1).alloc (Nat.le_refl _) (.cells #[.int .i64 5, .int .i32 0, .string ⟨#[]⟩] 26)
      have HD2 := hide (HD1.out.alloc (.cells #[.int .i64 5, .int .i32 0, .string ⟨#[]⟩] 26))
      have HT2 := hide (HT1.out.below hal)
      have HX2 := hide (ex_below HX1.out hal)
      have HO2 := hide (lit_own (k := ⟨5, 0, ⟨#[]⟩⟩) HX1.out.size)
      clear hal
      go_wp2_with fail
      refine (then_any D w.heap.size _ _ (kOne 5) x _ HT2.out h0 h1 HO2.out (by decide) HX2.out.size hs HD2.out).mono ?_
      intro e w3 hp
      have HP := hide (then_own HX2.out (then_ne x (by decide)) hp)
      clear hp
      obtain ⟨v, rfl, h5⟩ := HP.out
      go_wp2_with fail
      go_ret
      rw [HR.out]
      exact ⟨_, rfl, h5⟩
set_option maxRecDepth 100000 in
set_option maxHeartbeats 2000000 in
theorem third_any (D : Nat) (c : Value) (x : Int) (w : World) (hT : UTabs w) (h0 : 0 ≤ x) (h1 : x ≤ 255) (hs : SafeB D) (h : Blk w D 46 [c]) :
    Calls Tryd.prog 27 #[.pointer (some ⟨D, 0, none⟩), .int .u8 x] w (WPost D (thirdK x) w) := by
  have HT := hide hT
  have HD := hide h
  have HB := hide (arrow_bd x)
  have hcv := fun n hn => conv_atK (w := w) (W := w.alloc (.cells #[.int .u8 x] 5)) x n rfl hn
  clear hT h
  obtain ⟨k, hk⟩ : ∃ k, arrowK x = k := ⟨_, rfl⟩
  rw [hk] at HB
  have HK := hide hk
  by_cases hk0 : 0 < k
  · have HR := hide (show thirdK x = (⟨#[]⟩, kOne k) by unfold thirdK; rw [hk, if_pos hk0])
    clear hk
    go_enter Tryd.func27, Tryd.ntmps27
    go_wp2_with fail
    refine (arrow_any x _).mono ?_
    rintro e w1 ⟨rfl, rfl⟩
    rw [HK.out]
    go_wp2_with fail
    refine (one_any k _).mono ?_
    rintro e w2 ⟨rfl, rfl⟩
    have HD2 := hide (HD.out.alloc (.cells #[.int .i64 k, .int .i32 0, .string ⟨#[]⟩] 26))
    go_wp2_with fail
    refine (done_any D _ _ _ HD2.out).mono ?_
    rintro e w3 ⟨rfl, rfl⟩
    go_wp2_with fail
    go_ret
    rw [HR.out]
    exact wk_mk ((lit_own (k := ⟨k, 0, ⟨#[]⟩⟩) (Nat.le_refl _)).off HD2.out decKey _ _) (fun e => by cases e) (HD2.out.set 0 _) (ex_set (ex_alloc (Ex.refl _ _) _) _ _)
  have hk1 : k = 0 := by have := HB.out; omega
  subst hk1
  clear hk0
  by_cases d1 : 32 ≤ x ∧ x < 127
  · have HR := hide (show thirdK x = (⟨#[]⟩, kBad (⟨#[27, 79]⟩ ++ strOfNums [x])) by unfold thirdK; rw [hk, if_neg (by omega), if_pos d1]; rfl)
    clear hk
    obtain ⟨d2, d3⟩ := d1
    go_enter Tryd.func27, Tryd.ntmps27
    go_wp2_with fail
    refine (arrow_any x _).mono ?_
    rintro e w1 ⟨rfl, rfl⟩
    rw [HK.out]
    go_wp2_with fail
    refine (invalid_any _ _).mono ?_
    rintro e w2 ⟨rfl, rfl⟩
    have HX2 := hide (ex_alloc (Ex.refl [D] w) (.cells #[.int .u8 x] 5))
    have HD2 := hide ((HD.out.alloc (.cells #[.int .u8 x] 5)).alloc (.cells #[.int .i64 0, .int .i32 0, .string (⟨#[27, 79]⟩ ++ strOfNums [x])] 26))
    go_wp2_with fail
    refine (done_any D _ _ _ HD2.out).mono ?_
    rintro e w3 ⟨rfl, rfl⟩
    go_wp2_with fail
    go_ret
    rw [HR.out]
    have hown := (lit_own (k := ⟨0, 0, ⟨#[27, 79]⟩ ++ strOfNums [x]⟩) HX2.out.size).off HD2.out decKey 0 (.iface 9 (.string ⟨#[]⟩))
    rw [World.size_alloc] at hown
    exact wk_mk hown (fun e => by cases e) (HD2.out.set 0 _) (ex_set (ex_alloc HX2.out _) _ _)
  · have HR := hide (show thirdK x = thenK (kBad ⟨#[27, 79]⟩) x by unfold thirdK; rw [hk, if_neg (by omega), if_neg d1]; rfl)
    have hlo : x < 32 ∨ 127 ≤ x := by omega
    clear d1 hk
    rcases hlo with d1 | d1
    all_goals
      go_enter Tryd.func27, Tryd.ntmps27
      go_wp2_with fail
      refine (arrow_any x _).mono ?_
      rintro e w1 ⟨rfl, rfl⟩
      rw [HK.out]
      go_wp2_with fail
      refine (invalid_any _ _).mono ?_
      rintro e w2 ⟨rfl, rfl⟩
      have hal := (Below.refl w.heap.size w).alloc (Nat.le_refl _) (.cells #[.int .i64 0, .int .i32 0, .string ⟨#[27, 79]⟩] 26)
      have HD2 := hide (HD.out.alloc (.cells #[.int .i64 0, .int .i32 0, .string ⟨#[27, 79]⟩] 26))
      have HT2 := hide (HT.out.below hal)
      have HX2 := hide (Ex.of_below hal [D])
      have HO2 := hide (lit_own (w := w) (k := ⟨0, 0, ⟨#[27, 79]⟩⟩) (Nat.le_refl _))
      clear hal
      go_wp2_with fail
      refine (then_any D w.heap.size _ _ (kBad ⟨#[27, 79]⟩) x _ HT2.out h0 h1 HO2.out (by decide) HX2.out.size hs HD2.out).mono ?_
      intro e w3 hp
      have HP := hide (then_own HX2.out (then_ne x (by decide)) hp)
      clear hp
      obtain ⟨v, rfl, h5⟩ := HP.out
      go_wp2_with fail
      go_ret
      rw [HR.out]
      exact ⟨_, rfl, h5⟩
end Go.Proofs.YtiilgeinkocanaaDoor
