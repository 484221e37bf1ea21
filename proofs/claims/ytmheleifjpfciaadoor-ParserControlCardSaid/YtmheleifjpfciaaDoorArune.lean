/- Contract of parser.rune: a byte behind a beginning of a rune. -/
import Derived.Test.YtmheleifjpfciaaDoorAground
import Derived.Deep.RegionHeld3
namespace Go.Proofs.YtmheleifjpfciaaDoor
open Go.RowKit

theorem conv_1c (w : World) (A C : Obj) (a : Int) : (convert 46 9 (.slice (some ⟨w.heap.size + 1 + 1, 0, none⟩) 1 1)).run Tryd.prog (((w.alloc A).alloc C).alloc (.cells #[.int .u8 a] 5)) = .ok (.string (strOfNums [a])) (((w.alloc A).alloc C).alloc (.cells #[.int .u8 a] 5)) :=
  conv_at a _ rfl (by simp)
theorem next_0 (s : ByteArray) (w : World) (hs : s.size ≤ 1048576) (h : 0 < s.size) (hT : UTabs w) (b : Bool) (hb : (dec3 s 0).2.2 = b) :
    Calls Tryd.prog 29 #[.string s, .int .i64 0] w fun e w' => e = .returned (.tuple #[.int .i32 (Utf8.decode s 0).1, .int .i64 (Utf8.decode s 0).2, .bool b]) ∧ Below w.heap.size w w' := by
  have h1 := next_any s 0 w hs h hT
  subst hb
  exact h1
theorem whole_dec {s : ByteArray} : wholeB s = ((dec3 s 0).2.2 && decide ((Utf8.decode s 0).2 = s.size)) := rfl
theorem inRune_whole {t : ByteArray} {x : Int} {s : ByteArray} (hs : t ++ strOfNums [x] = s) (h : wholeB s = true) : inRune t x = ((0, ⟨#[]⟩), [⟨1, (Utf8.decode s 0).1, [], 0⟩]) := by subst hs; unfold inRune; rw [if_pos h]
theorem inRune_beg {t : ByteArray} {x : Int} {s : ByteArray} (hs : t ++ strOfNums [x] = s) (h : wholeB s = false) (hb : begB s = true) : inRune t x = ((1, s), []) := by subst hs; unfold inRune; rw [if_neg (by simp [h]), if_pos hb]
theorem inRune_bad {t : ByteArray} {x : Int} {s : ByteArray} (hs : t ++ strOfNums [x] = s) (h : wholeB s = false) (hb : begB s = false) : inRune t x = ((ground x).1, inv :: (ground x).2) := by subst hs; unfold inRune; rw [if_neg (by simp [h]), if_neg (by simp [hb])]
theorem whole_two {s : ByteArray} (h : wholeB s = false) : ((dec3 s 0).2.2 = false) ∨ ((dec3 s 0).2.2 = true ∧ (((Utf8.decode s 0).2 : Int) == (s.size : Int)) = false) := by
  rw [whole_dec] at h
  cases hb : (dec3 s 0).2.2
  · exact .inl rfl
  · rw [hb] at h
    refine .inr ⟨rfl, ?_⟩
    rw [eq_decB]
    simpa using h
theorem ground_few (x : Int) : (ground x).2.length ≤ 1 := by
  unfold ground
  (repeat' split) <;> simp

theorem far2 {W : World} {b N : Nat} {x y u v : Value} (h : W.cell? ⟨N, 0, none⟩ = some u ∧ W.cell? ⟨N, 1, none⟩ = some v) (hb : b ≠ N) :
    ((W.setCell ⟨b, 0, none⟩ x).setCell ⟨b, 1, none⟩ y).cell? ⟨N, 0, none⟩ = some u ∧ ((W.setCell ⟨b, 0, none⟩ x).setCell ⟨b, 1, none⟩ y).cell? ⟨N, 1, none⟩ = some v :=
  ⟨by rw [World.cell?_setCell_far _ _ _ _ hb, World.cell?_setCell_far _ _ _ _ hb]; exact h.1, by rw [World.cell?_setCell_far _ _ _ _ hb, World.cell?_setCell_far _ _ _ _ hb]; exact h.2⟩
set_option maxHeartbeats 2000000 in
theorem prune_any (t : ByteArray) (x : Int) (w : World) (hT : UTabs w) (ht : t.size ≤ 3) (h0 : 0 ≤ x) (h1 : x ≤ 255) :
    Calls Tryd.prog 16 #[.agg #[.int .i64 1, .string t], .int .u8 x] w (FeedPost w (stV (inRune t x).1) (inRune t x).2) := by
  have c1 := conv_1c
  have ht1 : (t.size : Int) ≤ 3 := by omega
  have HT := hide hT
  clear hT
  have o1 : ((strOfNums [x]).size : Int) ≤ 1 := by rw [one_size]; omega
  obtain ⟨s, hs⟩ : ∃ s, t ++ strOfNums [x] = s := ⟨_, rfl⟩
  have hz : s.size = t.size + 1 := by rw [← hs, join_size, one_size]
  have hz2 : s.size ≤ 1048576 := by omega
  have hz3 : 0 < s.size := by omega
  have HS := hide hs
  have HA := hide (((StBox.new (w.alloc (.cells #[.int .i64 1, .string t] 24)) (.int .i64 0) (.string ⟨#[]⟩)).below ((Below.refl _ _).alloc (Nat.le_refl _) (.cells #[.int .u8 x] 5))))
  have H3 := hide ((((Below.refl w.heap.size w).alloc (Nat.le_refl _) (.cells #[.int .i64 1, .string t] 24)).alloc (by simp) (.cells #[.int .i64 0, .string ⟨#[]⟩] 24)).alloc (by simp; omega) (.cells #[.int .u8 x] 5))
  rw [World.size_alloc] at HA
  have HN := hide (fun W hW b hb => next_0 s W hz2 hz3 hW b hb)
  have HBE := hide (fun W hW => begins_any s W hW)
  clear hz hz2 hz3
  cases hw : wholeB s
  · have hW2 := hide (whole_two hw)
    cases hbg : begB s
    · rw [inRune_bad hs hw hbg]
      rw [hbg] at HBE
      have hl : ([inv] : List Ac).length + (ground x).2.length ≤ 1000000 := by have := ground_few x; simp; omega
      have HF := hide (fun W hW => first_any x W hW h0 h1)
      obtain ⟨⟨⟨ga, gt⟩, gl⟩, hg⟩ : ∃ g, ground x = g := ⟨_, rfl⟩
      rw [hg] at HF hl ⊢
      replace HF : Hid (∀ W, UTabs W → Calls Tryd.prog 15 #[.int .u8 x] W (FeedPost W (.agg #[.int .i64 ga, .string gt]) gl)) := HF
      have HLen := hide hl
      clear hl hs hw hbg hg
      rcases hW2.out with hok | ⟨hok, hne⟩
      · replace HN := hide (fun W hW => HN.out W hW _ hok)
        clear hok hW2
        generalize (Utf8.decode s 0).1 = r at *
        generalize (Utf8.decode s 0).2 = n at *
        go_enter Tryd.func16, Tryd.ntmps16
        go_wp2_with (first
          | (go_at_call 29; rw [HS.out]; refine (HN.out _ (HT.out.below H3.out)).mono ?_; rintro e w1 ⟨rfl, hb1⟩; clear HN; have hz1 := hb1.size; simp at hz1; replace HA := hide (HA.out.below hb1); replace H3 := hide (H3.out.trans (hb1.mono (by simp; omega))); clear hb1)
          | (go_at_call 27; refine (HBE.out _ (HT.out.below H3.out)).mono ?_; rintro e w2 ⟨rfl, hb1⟩; clear HBE; have hz2 := hb1.size; replace HA := hide (HA.out.below hb1); replace H3 := hide (H3.out.trans (hb1.mono (by omega))); clear hb1)
          | (go_at_call 15; refine (HF.out _ (HT.out.below H3.out)).mono ?_; rintro e w3 ⟨fv, rfl, hacts, hb1⟩; have hz3 := hb1.size; replace HA := hide (HA.out.below hb1); replace H3 := hide (H3.out.trans (hb1.mono (by omega))); clear hb1; have HAC := hide hacts; clear hacts))
        have hst : StBox (w3.alloc (.cells #[.int .i64 ga, .string gt] 24)) w3.heap.size (.int .i64 ga) (.string gt) := StBox.new _ _ _
        have hA0 := HA.out.below ((Below.refl _ _).alloc (Nat.le_refl _) (.cells #[.int .i64 ga, .string gt] 24))
        have hB0 := H3.out.alloc (by omega) (.cells #[.int .i64 ga, .string gt] 24)
        have hC0 := HAC.out.below ((Below.refl _ _).alloc (Nat.le_refl _) (.cells #[.int .i64 ga, .string gt] 24))
        have hsz0 : (w3.alloc (.cells #[.int .i64 ga, .string gt] 24)).heap.size = w3.heap.size + 1 := by simp
        clear HA H3 HAC
        obtain ⟨N, hN⟩ : ∃ N, w3.heap.size = N := ⟨_, rfl⟩
        rw [hN] at hst hsz0 hz3 ⊢
        generalize w3.alloc (.cells #[.int .i64 ga, .string gt] 24) = W0 at hst hA0 hB0 hC0 hsz0 ⊢
        clear hN
        have hnb : w.heap.size + 1 < N := by omega
        have hW0 : N + 1 ≤ W0.drew.heap.size := by show N + 1 ≤ W0.heap.size; omega
        have HQ : Hid (StBox W0.drew N (.int .i64 ga) (.string gt)) := hst
        have HA : Hid (StBox W0.drew (w.heap.size + 1) (.int .i64 0) (.string ⟨#[]⟩)) := hA0
        have H3 : Hid (Below w.heap.size w W0.drew) := hB0.drew
        have HAC : Hid (ActsV W0.drew fv gl) := hC0
        clear hst hA0 hB0 hC0 hsz0
        go_region_held3 (fun W => W.cell? ⟨N, 0, none⟩ = some (.int .i64 ga) ∧ W.cell? ⟨N, 1, none⟩ = some (.string gt))
          (first | exact ⟨HQ.out.1, HQ.out.2.1⟩ | exact ⟨HQ4.out.1, HQ4.out.2.1⟩ | exact ⟨HQ5.out.1, HQ5.out.2.1⟩ | exact HQ6.out | exact far2 HQ6.out (by omega))
          (first
            | (go_at_call 28; refine (invalid_any _).mono ?_; rintro e w4 ⟨rfl, hb4⟩; have HQ4 := hide (HQ.out.below hb4); have HAL := hide ((Below.refl w4.heap.size w4).alloc (Nat.le_refl _) (.cells #[.int .i64 5, .int .i32 0, .slice none 0 0, .int .u8 0] 34)); have HQ5 := hide (HQ4.out.below HAL.out); have HA5 := hide ((HA.out.below hb4).below HAL.out); have HAC5 := hide ((HAC.out.below hb4).below HAL.out); have hz4 : N + 1 ≤ w4.heap.size := Nat.le_trans hW0 hb4.size; have H5 := hide ((H3.out.trans (hb4.mono (by omega))).trans (HAL.out.mono (by omega))); clear hb4 hW0)
            | (refine step_acts (by rfl) (.tmp 46) (.tmp 47) 25 34 (.agg #[.int .i64 0, .int .i32 0, .slice none 0 0, .int .u8 0]) (by rfl) (N + 1) (by simp; omega) Tryd.underlying25 (by decide) info_acP (by rfl) (.slice (some ⟨w4.heap.size, 0, none⟩) 1 1) fv [inv] gl (by rfl) (by rfl) (OwnA.lit (x := (.slice none 0 0, inv)) hz4 (heap_alloc_new w4 _) (NumsV.nil _)) HAC5.out HLen.out ?_; intro v6 w6 ho6 hb6 hv6; have HQ6 := hide (show w6.cell? ⟨N, 0, none⟩ = some (.int .i64 ga) ∧ w6.cell? ⟨N, 1, none⟩ = some (.string gt) from ⟨(hb6.cell (p := ⟨N, 0, none⟩) (by show N < N + 1; omega)).trans HQ5.out.1, (hb6.cell (p := ⟨N, 1, none⟩) (by show N < N + 1; omega)).trans HQ5.out.2.1⟩); have HA6 := hide (HA5.out.under hb6 (by omega)); have H6 := hide ((H5.out.trans (hb6.mono (by omega)))); have hz6 : w.heap.size + 1 < w6.heap.size := HA6.out.lt; obtain ⟨q0, q1, q2, q3, -⟩ := HA6.out; have HO6 := hide ho6; clear ho6 hb6 hv6)
            | fail)
        go_wp2
        obtain ⟨r0, r1, -⟩ := HA6.out.set (.int .i64 ga) (.string gt)
        obtain ⟨A9, c9, rfl⟩ := HO6.out.form
        have HO7 := hide ((HO6.out.set (p := ⟨w.heap.size + 1, 0, none⟩) HA6.out.2.2.2.2 (by decide) (by decide) (.int .i64 ga)).set (p := ⟨w.heap.size + 1, 1, none⟩) (HA6.out.2.2.2.2.setCell _ _) (by decide) (by decide) (.string gt))
        refine bodyPost_ret (v := .tuple #[.agg #[.int .i64 ga, .string gt], .slice A9 ([inv] ++ gl).length c9]) ?_ rfl ?_
        · simp [results, Tryd.results16, go_sem, r0, r1]
        · exact ⟨_, rfl, HO7.out.acts (fun e => by cases e), (H6.out.setCell (p := ⟨w.heap.size + 1, 0, none⟩) (Nat.le_succ _) _).setCell (p := ⟨w.heap.size + 1, 1, none⟩) (Nat.le_succ _) _⟩
      · replace HN := hide (fun W hW => HN.out W hW _ hok)
        have hne2 := hne
        clear hok hW2 hne
        generalize (Utf8.decode s 0).1 = r at *
        generalize (Utf8.decode s 0).2 = n at *
        go_enter Tryd.func16, Tryd.ntmps16
        go_wp2_with (first
          | (go_at_call 29; rw [HS.out]; refine (HN.out _ (HT.out.below H3.out)).mono ?_; rintro e w1 ⟨rfl, hb1⟩; clear HN; have hz1 := hb1.size; simp at hz1; replace HA := hide (HA.out.below hb1); replace H3 := hide (H3.out.trans (hb1.mono (by simp; omega))); clear hb1)
          | (go_at_call 27; refine (HBE.out _ (HT.out.below H3.out)).mono ?_; rintro e w2 ⟨rfl, hb1⟩; clear HBE; have hz2 := hb1.size; replace HA := hide (HA.out.below hb1); replace H3 := hide (H3.out.trans (hb1.mono (by omega))); clear hb1)
          | (go_at_call 15; refine (HF.out _ (HT.out.below H3.out)).mono ?_; rintro e w3 ⟨fv, rfl, hacts, hb1⟩; have hz3 := hb1.size; replace HA := hide (HA.out.below hb1); replace H3 := hide (H3.out.trans (hb1.mono (by omega))); clear hb1; have HAC := hide hacts; clear hacts))
        have hst : StBox (w3.alloc (.cells #[.int .i64 ga, .string gt] 24)) w3.heap.size (.int .i64 ga) (.string gt) := StBox.new _ _ _
        have hA0 := HA.out.below ((Below.refl _ _).alloc (Nat.le_refl _) (.cells #[.int .i64 ga, .string gt] 24))
        have hB0 := H3.out.alloc (by omega) (.cells #[.int .i64 ga, .string gt] 24)
        have hC0 := HAC.out.below ((Below.refl _ _).alloc (Nat.le_refl _) (.cells #[.int .i64 ga, .string gt] 24))
        have hsz0 : (w3.alloc (.cells #[.int .i64 ga, .string gt] 24)).heap.size = w3.heap.size + 1 := by simp
        clear HA H3 HAC
        obtain ⟨N, hN⟩ : ∃ N, w3.heap.size = N := ⟨_, rfl⟩
        rw [hN] at hst hsz0 hz3 ⊢
        generalize w3.alloc (.cells #[.int .i64 ga, .string gt] 24) = W0 at hst hA0 hB0 hC0 hsz0 ⊢
        clear hN
        have hnb : w.heap.size + 1 < N := by omega
        have hW0 : N + 1 ≤ W0.drew.heap.size := by show N + 1 ≤ W0.heap.size; omega
        have HQ : Hid (StBox W0.drew N (.int .i64 ga) (.string gt)) := hst
        have HA : Hid (StBox W0.drew (w.heap.size + 1) (.int .i64 0) (.string ⟨#[]⟩)) := hA0
        have H3 : Hid (Below w.heap.size w W0.drew) := hB0.drew
        have HAC : Hid (ActsV W0.drew fv gl) := hC0
        clear hst hA0 hB0 hC0 hsz0
        go_region_held3 (fun W => W.cell? ⟨N, 0, none⟩ = some (.int .i64 ga) ∧ W.cell? ⟨N, 1, none⟩ = some (.string gt))
          (first | exact ⟨HQ.out.1, HQ.out.2.1⟩ | exact ⟨HQ4.out.1, HQ4.out.2.1⟩ | exact ⟨HQ5.out.1, HQ5.out.2.1⟩ | exact HQ6.out | exact far2 HQ6.out (by omega))
          (first
            | (go_at_call 28; refine (invalid_any _).mono ?_; rintro e w4 ⟨rfl, hb4⟩; have HQ4 := hide (HQ.out.below hb4); have HAL := hide ((Below.refl w4.heap.size w4).alloc (Nat.le_refl _) (.cells #[.int .i64 5, .int .i32 0, .slice none 0 0, .int .u8 0] 34)); have HQ5 := hide (HQ4.out.below HAL.out); have HA5 := hide ((HA.out.below hb4).below HAL.out); have HAC5 := hide ((HAC.out.below hb4).below HAL.out); have hz4 : N + 1 ≤ w4.heap.size := Nat.le_trans hW0 hb4.size; have H5 := hide ((H3.out.trans (hb4.mono (by omega))).trans (HAL.out.mono (by omega))); clear hb4 hW0)
            | (refine step_acts (by rfl) (.tmp 46) (.tmp 47) 25 34 (.agg #[.int .i64 0, .int .i32 0, .slice none 0 0, .int .u8 0]) (by rfl) (N + 1) (by simp; omega) Tryd.underlying25 (by decide) info_acP (by rfl) (.slice (some ⟨w4.heap.size, 0, none⟩) 1 1) fv [inv] gl (by rfl) (by rfl) (OwnA.lit (x := (.slice none 0 0, inv)) hz4 (heap_alloc_new w4 _) (NumsV.nil _)) HAC5.out HLen.out ?_; intro v6 w6 ho6 hb6 hv6; have HQ6 := hide (show w6.cell? ⟨N, 0, none⟩ = some (.int .i64 ga) ∧ w6.cell? ⟨N, 1, none⟩ = some (.string gt) from ⟨(hb6.cell (p := ⟨N, 0, none⟩) (by show N < N + 1; omega)).trans HQ5.out.1, (hb6.cell (p := ⟨N, 1, none⟩) (by show N < N + 1; omega)).trans HQ5.out.2.1⟩); have HA6 := hide (HA5.out.under hb6 (by omega)); have H6 := hide ((H5.out.trans (hb6.mono (by omega)))); have hz6 : w.heap.size + 1 < w6.heap.size := HA6.out.lt; obtain ⟨q0, q1, q2, q3, -⟩ := HA6.out; have HO6 := hide ho6; clear ho6 hb6 hv6)
            | fail)
        go_wp2
        obtain ⟨r0, r1, -⟩ := HA6.out.set (.int .i64 ga) (.string gt)
        obtain ⟨A9, c9, rfl⟩ := HO6.out.form
        have HO7 := hide ((HO6.out.set (p := ⟨w.heap.size + 1, 0, none⟩) HA6.out.2.2.2.2 (by decide) (by decide) (.int .i64 ga)).set (p := ⟨w.heap.size + 1, 1, none⟩) (HA6.out.2.2.2.2.setCell _ _) (by decide) (by decide) (.string gt))
        refine bodyPost_ret (v := .tuple #[.agg #[.int .i64 ga, .string gt], .slice A9 ([inv] ++ gl).length c9]) ?_ rfl ?_
        · simp [results, Tryd.results16, go_sem, r0, r1]
        · exact ⟨_, rfl, HO7.out.acts (fun e => by cases e), (H6.out.setCell (p := ⟨w.heap.size + 1, 0, none⟩) (Nat.le_succ _) _).setCell (p := ⟨w.heap.size + 1, 1, none⟩) (Nat.le_succ _) _⟩
    · rw [inRune_beg hs hw hbg]
      rw [hbg] at HBE
      clear hs hw hbg
      rcases hW2.out with hok | ⟨hok, hne⟩
      · replace HN := hide (fun W hW => HN.out W hW _ hok)
        clear hok hW2
        generalize (Utf8.decode s 0).1 = r at *
        generalize (Utf8.decode s 0).2 = n at *
        go_enter Tryd.func16, Tryd.ntmps16
        go_wp2_with (first
          | (go_at_call 29; rw [HS.out]; refine (HN.out _ (HT.out.below H3.out)).mono ?_; rintro e w1 ⟨rfl, hb1⟩; clear HN; have hz1 := hb1.size; simp at hz1; replace HA := hide (HA.out.below hb1); replace H3 := hide (H3.out.trans (hb1.mono (by simp; omega))); clear hb1)
          | (go_at_call 27; refine (HBE.out _ (HT.out.below H3.out)).mono ?_; rintro e w2 ⟨rfl, hb1⟩; clear HBE; have hz2 := hb1.size; replace HA := hide (HA.out.below hb1); replace H3 := hide (H3.out.trans (hb1.mono (by omega))); clear hb1; obtain ⟨q0, q1, q2, q3, -⟩ := HA.out; have hzl : w.heap.size + 1 < w2.heap.size := HA.out.lt)
          | fail)
        obtain ⟨r0, r1, -⟩ := HA.out.set (.int .i64 1) (.string s)
        refine bodyPost_ret (v := .tuple #[.agg #[.int .i64 1, .string s], .slice none 0 0]) ?_ rfl ?_
        · simp [results, Tryd.results16, go_sem, r0, r1]
        · exact ⟨_, rfl, ActsV.nil _, (H3.out.setCell (p := ⟨w.heap.size + 1, 0, none⟩) (Nat.le_succ _) _).setCell (p := ⟨w.heap.size + 1, 1, none⟩) (Nat.le_succ _) _⟩
      · replace HN := hide (fun W hW => HN.out W hW _ hok)
        clear hok hW2
        have hne2 := hne
        clear hne
        generalize (Utf8.decode s 0).1 = r at *
        generalize (Utf8.decode s 0).2 = n at *
        go_enter Tryd.func16, Tryd.ntmps16
        go_wp2_with (first
          | (go_at_call 29; rw [HS.out]; refine (HN.out _ (HT.out.below H3.out)).mono ?_; rintro e w1 ⟨rfl, hb1⟩; clear HN; have hz1 := hb1.size; simp at hz1; replace HA := hide (HA.out.below hb1); replace H3 := hide (H3.out.trans (hb1.mono (by simp; omega))); clear hb1)
          | (go_at_call 27; refine (HBE.out _ (HT.out.below H3.out)).mono ?_; rintro e w2 ⟨rfl, hb1⟩; clear HBE; have hz2 := hb1.size; replace HA := hide (HA.out.below hb1); replace H3 := hide (H3.out.trans (hb1.mono (by omega))); clear hb1; obtain ⟨q0, q1, q2, q3, -⟩ := HA.out; have hzl : w.heap.size + 1 < w2.heap.size := HA.out.lt)
          | fail)
        obtain ⟨r0, r1, -⟩ := HA.out.set (.int .i64 1) (.string s)
        refine bodyPost_ret (v := .tuple #[.agg #[.int .i64 1, .string s], .slice none 0 0]) ?_ rfl ?_
        · simp [results, Tryd.results16, go_sem, r0, r1]
        · exact ⟨_, rfl, ActsV.nil _, (H3.out.setCell (p := ⟨w.heap.size + 1, 0, none⟩) (Nat.le_succ _) _).setCell (p := ⟨w.heap.size + 1, 1, none⟩) (Nat.le_succ _) _⟩
  · rw [inRune_whole hs hw]
    rw [whole_dec, Bool.and_eq_true] at hw
    have hne : (((Utf8.decode s 0).2 : Int) == (s.size : Int)) = true := by rw [eq_decB]; exact hw.2
    have hok := hw.1
    replace HN := hide (fun W hW => HN.out W hW _ hok)
    clear hok hs hw
    generalize (Utf8.decode s 0).1 = r at *
    generalize (Utf8.decode s 0).2 = n at *
    go_enter Tryd.func16, Tryd.ntmps16
    go_wp2_with (first
          | (go_at_call 29; rw [HS.out]; refine (HN.out _ (HT.out.below H3.out)).mono ?_; rintro e w1 ⟨rfl, hb1⟩; clear HN; have hz1 := hb1.size; simp at hz1; replace HA := hide (HA.out.below hb1); replace H3 := hide (H3.out.trans (hb1.mono (by simp; omega))); clear hb1; obtain ⟨q0, q1, q2, q3, -⟩ := HA.out; have hzl : w.heap.size + 1 < w1.heap.size := HA.out.lt)
          | fail)
    obtain ⟨r0, r1, -⟩ := (HA.out.set (.int .i64 0) (.string ⟨#[]⟩)).below ((Below.refl _ _).alloc (Nat.le_refl _) (.cells #[.int .i64 1, .int .i32 r, .slice none 0 0, .int .u8 0] 34))
    refine bodyPost_ret (v := .tuple #[.agg #[.int .i64 0, .string ⟨#[]⟩], .slice (some ⟨w1.heap.size, 0, none⟩) 1 1]) ?_ rfl ?_
    · simp [results, Tryd.results16, go_sem, r0, r1]
    · exact ⟨_, rfl, lit_at (NumsV.nil _) (by simp), (((H3.out.setCell (p := ⟨w.heap.size + 1, 0, none⟩) (Nat.le_succ _) _).setCell (p := ⟨w.heap.size + 1, 1, none⟩) (Nat.le_succ _) _).alloc (by simp; omega) _)⟩
end Go.Proofs.YtmheleifjpfciaaDoor
