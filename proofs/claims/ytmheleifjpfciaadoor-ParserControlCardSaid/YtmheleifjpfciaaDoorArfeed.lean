/- Contract of limnerref07.Feed. -/
import Derived.Test.YtmheleifjpfciaaDoorArune
import Derived.Test.YtmheleifjpfciaaDoorAnums
namespace Go.Proofs.YtmheleifjpfciaaDoor
open Go.RowKit

theorem par_some {w : World} {o : Option (List Int)} {l : List Int} {f : FuncId} {args : Array Value} (h : Calls Tryd.prog f args w (ParPost w o)) (e : o = some l) : Calls Tryd.prog f args w fun e w' => ∃ v, e = .returned (.tuple #[v, .bool true]) ∧ NumsV w' v l ∧ Below w.heap.size w w' := by
  subst e; exact h
theorem par_none {w : World} {o : Option (List Int)} {f : FuncId} {args : Array Value} (h : Calls Tryd.prog f args w (ParPost w o)) (e : o = none) : Calls Tryd.prog f args w fun e w' => ∃ v, e = .returned (.tuple #[v, .bool false]) ∧ Below w.heap.size w w' := by
  subst e; exact h
theorem seq_27 (a : Nat) (t : ByteArray) : inSeq a t 27 = ((2, ⟨#[]⟩), [inv]) := rfl
theorem seq_24 (a : Nat) (t : ByteArray) : inSeq a t 24 = ((0, ⟨#[]⟩), [inv]) := rfl
theorem seq_26 (a : Nat) (t : ByteArray) : inSeq a t 26 = ((0, ⟨#[]⟩), [inv]) := rfl
theorem seq_ctl {a : Nat} {t : ByteArray} {x : Int} (h1 : x ≠ 27) (h2 : x ≠ 24) (h3 : x ≠ 26) (h : x < 32) : inSeq a t x = ((a, t), [⟨2, x, [], 0⟩]) := by unfold inSeq; rw [if_neg h1, if_neg (by omega), if_pos h]
theorem seq2_br (t : ByteArray) : inSeq 2 t 91 = ((3, ⟨#[]⟩), []) := rfl
theorem seq2_esc {t : ByteArray} {x : Int} (h : 48 ≤ x) (h1 : x < 127) (h2 : x ≠ 91) : inSeq 2 t x = ((0, ⟨#[]⟩), [⟨4, 0, [], x⟩]) := by unfold inSeq; rw [if_neg (by omega), if_neg (by omega), if_neg (by omega), if_pos rfl, if_neg h2, if_pos ⟨h, h1⟩]
theorem seq2_bad {t : ByteArray} {x : Int} (h : 32 ≤ x) (h1 : x < 48 ∨ 127 ≤ x) : inSeq 2 t x = ((0, ⟨#[]⟩), [inv]) := by unfold inSeq; rw [if_neg (by omega), if_neg (by omega), if_neg (by omega), if_pos rfl, if_neg (by omega), if_neg (by omega)]
theorem seq3_more {t : ByteArray} {x : Int} (h : 32 ≤ x) (h1 : x < 64) : inSeq 3 t x = ((3, t ++ strOfNums [x]), []) := by unfold inSeq; rw [if_neg (by omega), if_neg (by omega), if_neg (by omega), if_neg (by omega), if_pos h1]
theorem seq3_ok {t : ByteArray} {x : Int} {l : List Int} (h : 64 ≤ x) (h1 : x < 127) (hp : params t = some l) : inSeq 3 t x = ((0, ⟨#[]⟩), [⟨3, 0, l, x⟩]) := by unfold inSeq; rw [if_neg (by omega), if_neg (by omega), if_neg (by omega), if_neg (by omega), if_neg (by omega), if_pos h1, hp]; rfl
theorem seq3_no {t : ByteArray} {x : Int} (h : 64 ≤ x) (h1 : x < 127) (hp : params t = none) : inSeq 3 t x = ((0, ⟨#[]⟩), [inv]) := by unfold inSeq; rw [if_neg (by omega), if_neg (by omega), if_neg (by omega), if_neg (by omega), if_neg (by omega), if_pos h1, hp]; rfl
theorem seq3_high {t : ByteArray} {x : Int} (h : 127 ≤ x) : inSeq 3 t x = ((0, ⟨#[]⟩), [inv]) := by unfold inSeq; rw [if_neg (by omega), if_neg (by omega), if_neg (by omega), if_neg (by omega), if_neg (by omega), if_neg (by omega)]
/-- The text handed back, by its equation. -/
theorem feed_mk {w : World} {u : ByteArray} {L : List Ac} {v : Value} {W : World} {s : ByteArray} (e : s = u) (h : ActsV W v L) (hb : Below w.heap.size w W) : FeedPost w (.string u) L (.returned (.tuple #[.string s, v])) W := by
  subst e; exact ⟨v, rfl, h, hb⟩

set_option maxHeartbeats 1000000 in
theorem rfeed0_any (x : Int) (w : World) (h0 : 0 ≤ x) (h1 : x ≤ 255) :
    Calls Tryd.prog 10 #[.string ⟨#[]⟩, .int .u8 x] w (FeedPost w (.string (tOf (ground x).1)) (ground x).2) := by
  go_enter Tryd.func10, Tryd.ntmps10
  go_wp2_with (go_at_call 18; refine (rground_any x _ h0 h1).mono ?_; rintro e w1 ⟨v, rfl, ha, hb⟩; have HA := hide ha; have HB := hide hb; clear ha hb)
  go_ret2
  exact ⟨_, rfl, HA.out, HB.out⟩


set_option maxRecDepth 100000 in
set_option maxHeartbeats 2000000 in
theorem rfeed1_any (t : ByteArray) (x : Int) (w : World) (ht0 : 0 < t.size) (ht : t.size ≤ 3) (hb0 : 128 ≤ (t.get! 0).toNat) (h0 : 0 ≤ x) (h1 : x ≤ 255) :
    Calls Tryd.prog 10 #[.string t, .int .u8 x] w (FeedPost w (.string (tOf (inRune t x).1)) (inRune t x).2) := by
  have c1 := conv_1
  have hl := str_nonempty ht0
  have ht1 : (t.size : Int) ≤ 3 := by omega
  have o1 : ((strOfNums [x]).size : Int) ≤ 1 := by rw [one_size]; omega
  obtain ⟨x0, hx0⟩ : ∃ x0, t.get! 0 = x0 := ⟨_, rfl⟩
  have hs0 : t[0]'ht0 = x0 := by rw [← hx0]; exact (get_of ht0).symm
  rw [hx0] at hb0
  clear hx0
  have n27 : ((x0.toNat : Int) != 27) = true := by simp; omega
  obtain ⟨s, hs⟩ : ∃ s, t ++ strOfNums [x] = s := ⟨_, rfl⟩
  have hz : s.size = t.size + 1 := by rw [← hs, join_size, one_size]
  have hz2 : s.size ≤ 1048576 := by omega
  have hz3 : 0 < s.size := by omega
  have HS := hide hs
  have H3 := hide ((Below.refl w.heap.size w).alloc (Nat.le_refl _) (.cells #[.int .u8 x] 5))
  have HW := hide (fun W => whole_any s W hz2 hz3)
  have HN := hide (fun W b hb => rnext_0 s W hz2 hz3 b hb)
  have HBE := hide (fun W => rbegins_any s W (by omega))
  clear hz hz2 hz3
  cases hw : wholeB s
  · rw [hw] at HW
    cases hbg : begB s
    · rw [inRune_bad hs hw hbg]
      rw [hbg] at HBE
      have hl2 : ([inv] : List Ac).length + (ground x).2.length ≤ 1000000 := by have := ground_few x; simp; omega
      have HF := hide (fun W => rground_any x W h0 h1)
      obtain ⟨⟨⟨ga, gt⟩, gl⟩, hg⟩ : ∃ g, ground x = g := ⟨_, rfl⟩
      rw [hg] at HF hl2 ⊢
      obtain ⟨gu, hgu⟩ : ∃ gu, tOf (ga, gt) = gu := ⟨_, rfl⟩
      replace HF : Hid (∀ W, Calls Tryd.prog 18 #[.int .u8 x] W (FeedPost W (.string (tOf (ga, gt))) gl)) := HF
      rw [hgu] at HF
      show Calls _ _ _ _ (FeedPost w (.string (tOf (ga, gt))) (inv :: gl))
      rw [hgu]
      have HLen := hide hl2
      clear hl2 hs hw hbg hg hgu
      go_enter Tryd.func10, Tryd.ntmps10
      go_wp2_with (first
        | (go_at_call 19; rw [HS.out]; refine (HW.out _).mono ?_; rintro e w1 ⟨rfl, hb1⟩; clear HW; replace H3 := hide (H3.out.trans (hb1.mono (by simp))); clear hb1)
        | (go_at_call 22; refine (HBE.out _).mono ?_; rintro e w2 ⟨rfl, hb1⟩; clear HBE; replace H3 := hide (H3.out.trans (hb1.mono H3.out.size)); clear hb1)
        | (go_at_call 18; refine (HF.out _).mono ?_; rintro e w3 ⟨fv, rfl, hacts, hb1⟩; replace H3 := hide (H3.out.trans (hb1.mono H3.out.size)); clear hb1; have HAC := hide hacts; clear hacts)
        | (go_at_call 21; refine (one_any _ _ _).mono ?_; rintro e w5 ⟨rfl, rfl⟩)
        | (at_builtin; refine wpList_acts _ rfl _ _ 28 35 (.agg #[.int .i64 0, .int .i32 0, .slice none 0 0, .int .u8 0]) rfl w3.heap.size (by simp) Tryd.underlying28 (by decide) info_acR (by rfl) _ fv [inv] gl rfl rfl (OwnA.lit (x := (.slice none 0 0, inv)) (Nat.le_refl _) (heap_alloc_new w3 _) (NumsV.nil _)) (HAC.out.below ((Below.refl _ _).alloc (Nat.le_refl _) _)) HLen.out ?_; intro v6 w6 ho6 hb6 hv6; have H6 := hide ((H3.out.alloc H3.out.size (.cells #[.int .i64 5, .int .i32 0, .slice none 0 0, .int .u8 0] 35)).trans (hb6.mono H3.out.size)); have HO6 := hide ho6; clear ho6 hb6 hv6)
        | fail)
      go_ret2
      exact feed_mk rfl (HO6.out.acts (fun e => by cases e)) H6.out
    · rw [inRune_beg hs hw hbg]
      rw [hbg] at HBE
      clear hs hw hbg
      go_enter Tryd.func10, Tryd.ntmps10
      go_wp2_with (first
        | (go_at_call 19; rw [HS.out]; refine (HW.out _).mono ?_; rintro e w1 ⟨rfl, hb1⟩; clear HW; replace H3 := hide (H3.out.trans (hb1.mono (by simp))); clear hb1)
        | (go_at_call 22; refine (HBE.out _).mono ?_; rintro e w2 ⟨rfl, hb1⟩; clear HBE; replace H3 := hide (H3.out.trans (hb1.mono H3.out.size)); clear hb1)
        | fail)
      go_ret2
      exact feed_mk rfl (ActsV.nil _) H3.out
  · rw [inRune_whole hs hw]
    rw [hw] at HW
    rw [whole_dec, Bool.and_eq_true] at hw
    have hok := hw.1
    replace HN := hide (fun W => HN.out W _ hok)
    clear hok hs hw
    generalize (Utf8.decode s 0).1 = r at *
    generalize (Utf8.decode s 0).2 = n at *
    go_enter Tryd.func10, Tryd.ntmps10
    go_wp2_with (first
      | (go_at_call 19; rw [HS.out]; refine (HW.out _).mono ?_; rintro e w1 ⟨rfl, hb1⟩; clear HW; replace H3 := hide (H3.out.trans (hb1.mono (by simp))); clear hb1)
      | (go_at_call 20; refine (HN.out _).mono ?_; rintro e w2 ⟨rfl, hb1⟩; clear HN; replace H3 := hide (H3.out.trans (hb1.mono H3.out.size)); clear hb1)
      | (go_at_call 21; refine (one_any _ _ _).mono ?_; rintro e w5 ⟨rfl, rfl⟩)
      | fail)
    go_ret2
    exact feed_mk rfl (lit_at (NumsV.nil _) rfl) (H3.out.alloc H3.out.size _)


set_option maxRecDepth 100000 in
set_option maxHeartbeats 2000000 in
theorem rfeed2_any (T : ByteArray) (x : Int) (w : World) (hTT : T = ⟨#[27]⟩) (h0 : 0 ≤ x) (h1 : x ≤ 255) :
    Calls Tryd.prog 10 #[.string T, .int .u8 x] w (FeedPost w (.string (tOf (inSeq 2 ⟨#[]⟩ x).1)) (inSeq 2 ⟨#[]⟩ x).2) := by
  have c1 := conv_1
  have hTs : T.size = 1 := by rw [hTT]; rfl
  have hg0 : T.get! 0 = 27 := by rw [hTT]; rfl
  have ht1 : (T.size : Int) ≤ 1000 := by omega
  have ht2 : ((T.size : Int) == 1) = true := by rw [hTs]; rfl
  have ht3 : 0 < T.size := by omega
  have hl := str_nonempty ht3
  have hs0 : T[0]'ht3 = 27 := by rw [← hg0]; exact (get_of ht3).symm
  have n27 : (((27 : UInt8).toNat : Int) != 27) = false := rfl
  have o1 : ((strOfNums [x]).size : Int) ≤ 1 := by rw [one_size]; omega
  have HTT := hide hTT
  have H3 := hide ((Below.refl w.heap.size w).alloc (Nat.le_refl _) (.cells #[.int .u8 x] 5))
  clear hTT hTs hg0
  by_cases k27 : x = 27
  · subst k27
    rw [seq_27]
    go_enter Tryd.func10, Tryd.ntmps10
    go_wp2_with (first | (go_at_call 21; refine (one_any _ _ _).mono ?_; rintro e w5 ⟨rfl, rfl⟩) | fail)
    go_ret2
    exact feed_mk rfl (lit_at (NumsV.nil _) (by simp)) (H3.out.alloc H3.out.size _)
  by_cases k24 : x = 24
  · subst k24
    rw [seq_24]
    go_enter Tryd.func10, Tryd.ntmps10
    go_wp2_with (first | (go_at_call 21; refine (one_any _ _ _).mono ?_; rintro e w5 ⟨rfl, rfl⟩) | fail)
    go_ret2
    exact feed_mk rfl (lit_at (NumsV.nil _) (by simp)) (H3.out.alloc H3.out.size _)
  by_cases k26 : x = 26
  · subst k26
    rw [seq_26]
    go_enter Tryd.func10, Tryd.ntmps10
    go_wp2_with (first | (go_at_call 21; refine (one_any _ _ _).mono ?_; rintro e w5 ⟨rfl, rfl⟩) | fail)
    go_ret2
    exact feed_mk rfl (lit_at (NumsV.nil _) (by simp)) (H3.out.alloc H3.out.size _)
  have t1 : (x == 27) = false := by simp [k27]
  have t2 : (x == 24) = false := by simp [k24]
  have t3 : (x == 26) = false := by simp [k26]
  by_cases h5 : x < 32
  · rw [seq_ctl k27 k24 k26 h5]
    go_enter Tryd.func10, Tryd.ntmps10
    go_wp2_with (first | (go_at_call 21; refine (one_any _ _ _).mono ?_; rintro e w5 ⟨rfl, rfl⟩) | fail)
    go_ret2
    exact feed_mk (by rw [HTT.out]; rfl) (lit_at (NumsV.nil _) (by simp)) (H3.out.alloc H3.out.size _)
  by_cases h6 : x = 91
  · subst h6
    rw [seq2_br]
    go_enter Tryd.func10, Tryd.ntmps10
    go_wp2_with (first | (go_at_call 21; refine (one_any _ _ _).mono ?_; rintro e w5 ⟨rfl, rfl⟩) | fail)
    go_ret2
    exact feed_mk (by rw [HTT.out]; rfl) (ActsV.nil _) H3.out
  have t4 : (x == 91) = false := by simp [h6]
  by_cases h7 : 48 ≤ x
  · by_cases h8 : x < 127
    · have h9 : x ≤ 126 := by omega
      rw [seq2_esc h7 h8 h6]
      go_enter Tryd.func10, Tryd.ntmps10
      go_wp2_with (first | (go_at_call 21; refine (one_any _ _ _).mono ?_; rintro e w5 ⟨rfl, rfl⟩) | fail)
      go_ret2
      exact feed_mk rfl (lit_at (NumsV.nil _) (by simp)) (H3.out.alloc H3.out.size _)
    · have h9 : ¬ x ≤ 126 := by omega
      rw [seq2_bad (by omega) (.inr (by omega))]
      go_enter Tryd.func10, Tryd.ntmps10
      go_wp2_with (first | (go_at_call 21; refine (one_any _ _ _).mono ?_; rintro e w5 ⟨rfl, rfl⟩) | fail)
      go_ret2
      exact feed_mk rfl (lit_at (NumsV.nil _) (by simp)) (H3.out.alloc H3.out.size _)
  · rw [seq2_bad (by omega) (.inl (by omega))]
    go_enter Tryd.func10, Tryd.ntmps10
    go_wp2_with (first | (go_at_call 21; refine (one_any _ _ _).mono ?_; rintro e w5 ⟨rfl, rfl⟩) | fail)
    go_ret2
    exact feed_mk rfl (lit_at (NumsV.nil _) (by simp)) (H3.out.alloc H3.out.size _)

set_option maxRecDepth 100000 in
set_option maxHeartbeats 2000000 in
theorem rfeed3_any (t T : ByteArray) (x : Int) (w : World) (ht : t.size ≤ 90000) (hTT : T = ⟨#[27, 91]⟩ ++ t) (h0 : 0 ≤ x) (h1 : x ≤ 255) :
    Calls Tryd.prog 10 #[.string T, .int .u8 x] w (FeedPost w (.string (tOf (inSeq 3 t x).1)) (inSeq 3 t x).2) := by
  have c1 := conv_1
  have hTs : T.size = t.size + 2 := by rw [hTT, join_size]; show 2 + t.size = _; omega
  have hg0 : T.get! 0 = 27 := by rw [hTT, join_get0 (by decide)]; rfl
  have ht1 : (T.size : Int) ≤ 100000 := by omega
  have ht2 : ((T.size : Int) == 1) = false := by simp; omega
  have ht3 : 0 < T.size := by omega
  have ht4 : (2 : Int) ≤ (T.size : Int) := by omega
  have hl := str_nonempty ht3
  have hs0 : T[0]'ht3 = 27 := by rw [← hg0]; exact (get_of ht3).symm
  have hex : T.extract 2 T.size = t := by
    rw [hTT, show (⟨#[27, 91]⟩ ++ t : ByteArray).size = 2 + t.size by rw [join_size]; rfl]
    exact ByteArray.extract_append_eq_right rfl (by rfl)
  have HE := hide hex
  clear hex
  have n27 : (((27 : UInt8).toNat : Int) != 27) = false := rfl
  have o1 : ((strOfNums [x]).size : Int) ≤ 1 := by rw [one_size]; omega
  have HTT := hide hTT
  have H3 := hide ((Below.refl w.heap.size w).alloc (Nat.le_refl _) (.cells #[.int .u8 x] 5))
  clear hTT hTs hg0
  by_cases k27 : x = 27
  · subst k27
    rw [seq_27]
    go_enter Tryd.func10, Tryd.ntmps10
    go_wp2_with (first | (go_at_call 21; refine (one_any _ _ _).mono ?_; rintro e w5 ⟨rfl, rfl⟩) | fail)
    go_ret2
    exact feed_mk rfl (lit_at (NumsV.nil _) (by simp)) (H3.out.alloc H3.out.size _)
  by_cases k24 : x = 24
  · subst k24
    rw [seq_24]
    go_enter Tryd.func10, Tryd.ntmps10
    go_wp2_with (first | (go_at_call 21; refine (one_any _ _ _).mono ?_; rintro e w5 ⟨rfl, rfl⟩) | fail)
    go_ret2
    exact feed_mk rfl (lit_at (NumsV.nil _) (by simp)) (H3.out.alloc H3.out.size _)
  by_cases k26 : x = 26
  · subst k26
    rw [seq_26]
    go_enter Tryd.func10, Tryd.ntmps10
    go_wp2_with (first | (go_at_call 21; refine (one_any _ _ _).mono ?_; rintro e w5 ⟨rfl, rfl⟩) | fail)
    go_ret2
    exact feed_mk rfl (lit_at (NumsV.nil _) (by simp)) (H3.out.alloc H3.out.size _)
  have t1 : (x == 27) = false := by simp [k27]
  have t2 : (x == 24) = false := by simp [k24]
  have t3 : (x == 26) = false := by simp [k26]
  by_cases h5 : x < 32
  · rw [seq_ctl k27 k24 k26 h5]
    go_enter Tryd.func10, Tryd.ntmps10
    go_wp2_with (first | (go_at_call 21; refine (one_any _ _ _).mono ?_; rintro e w5 ⟨rfl, rfl⟩) | fail)
    go_ret2
    exact feed_mk (by rw [HTT.out]; rfl) (lit_at (NumsV.nil _) (by simp)) (H3.out.alloc H3.out.size _)
  by_cases h6 : x < 64
  · rw [seq3_more (by omega) h6]
    go_enter Tryd.func10, Tryd.ntmps10
    go_wp2_with (first | (go_at_call 21; refine (one_any _ _ _).mono ?_; rintro e w5 ⟨rfl, rfl⟩) | fail)
    go_ret2
    exact feed_mk (by rw [HTT.out]; exact ByteArray.append_assoc) (ActsV.nil _) H3.out
  by_cases h7 : x < 127
  · have h9 : x ≤ 126 := by omega
    have h8 : ¬ 126 < x := by omega
    cases hp : params t with
    | none =>
      rw [seq3_no (by omega) h7 hp]
      have HPP := hide hp
      clear hp
      go_enter Tryd.func10, Tryd.ntmps10
      go_wp2_with (first | (go_at_call 23; rw [HE.out]; refine (par_none (rparams_any t _ (by omega)) HPP.out).mono ?_; rintro e w1 ⟨pv, rfl, hb1⟩; replace H3 := hide (H3.out.trans (hb1.mono H3.out.size)); clear hb1) | (go_at_call 21; refine (one_any _ _ _).mono ?_; rintro e w5 ⟨rfl, rfl⟩) | fail)
      go_ret2
      exact feed_mk rfl (lit_at (NumsV.nil _) rfl) (H3.out.alloc H3.out.size _)
    | some l =>
      rw [seq3_ok (by omega) h7 hp]
      have HPP := hide hp
      clear hp
      go_enter Tryd.func10, Tryd.ntmps10
      go_wp2_with (first | (go_at_call 23; rw [HE.out]; refine (par_some (rparams_any t _ (by omega)) HPP.out).mono ?_; rintro e w1 ⟨pv, rfl, hnum, hb1⟩; replace H3 := hide (H3.out.trans (hb1.mono H3.out.size)); obtain ⟨A9, c9, rfl, hcs⟩ := hnum; have HNU : Hid (NumsV w1 (.slice A9 l.length c9) l) := hide ⟨A9, c9, rfl, hcs⟩; clear hb1 hcs) | (go_at_call 21; refine (one_any _ _ _).mono ?_; rintro e w5 ⟨rfl, rfl⟩) | fail)
      go_ret2
      exact feed_mk rfl (lit_at HNU.out rfl) (H3.out.alloc H3.out.size _)
  · have h8 : 126 < x := by omega
    rw [seq3_high (by omega)]
    cases hp : params t with
    | none =>
      have HPP := hide hp
      clear hp
      go_enter Tryd.func10, Tryd.ntmps10
      go_wp2_with (first | (go_at_call 23; rw [HE.out]; refine (par_none (rparams_any t _ (by omega)) HPP.out).mono ?_; rintro e w1 ⟨pv, rfl, hb1⟩; replace H3 := hide (H3.out.trans (hb1.mono H3.out.size)); clear hb1) | (go_at_call 21; refine (one_any _ _ _).mono ?_; rintro e w5 ⟨rfl, rfl⟩) | fail)
      go_ret2
      exact feed_mk rfl (lit_at (NumsV.nil _) rfl) (H3.out.alloc H3.out.size _)
    | some l =>
      have HPP := hide hp
      clear hp
      go_enter Tryd.func10, Tryd.ntmps10
      go_wp2_with (first | (go_at_call 23; rw [HE.out]; refine (par_some (rparams_any t _ (by omega)) HPP.out).mono ?_; rintro e w1 ⟨pv, rfl, hnum, hb1⟩; replace H3 := hide (H3.out.trans (hb1.mono H3.out.size)); obtain ⟨A9, c9, rfl, hcs⟩ := hnum; have HNU : Hid (NumsV w1 (.slice A9 l.length c9) l) := hide ⟨A9, c9, rfl, hcs⟩; clear hb1 hcs) | (go_at_call 21; refine (one_any _ _ _).mono ?_; rintro e w5 ⟨rfl, rfl⟩) | fail)
      go_ret2
      exact feed_mk rfl (lit_at (NumsV.nil _) rfl) (H3.out.alloc H3.out.size _)

/-- limnerref07.Feed. -/
theorem rfeed_any (k : Nat) (p : Nat × ByteArray) (x : Int) (w : World) (hk : k ≤ 90000) (hp : StOk k p) (h0 : 0 ≤ x) (h1 : x ≤ 255) :
    Calls Tryd.prog 10 #[.string (tOf p), .int .u8 x] w (FeedPost w (.string (tOf (feed p x).1)) (feed p x).2) := by
  obtain ⟨a, t⟩ := p
  rcases hp with ⟨e, hp⟩ | ⟨e, hp, hp2, hp3⟩ | ⟨e, hp⟩ | ⟨e, hp⟩
  · obtain rfl : a = 0 := e
    exact rfeed0_any x w h0 h1
  · obtain rfl : a = 1 := e
    exact rfeed1_any t x w hp hp2 hp3 h0 h1
  · obtain rfl : a = 2 := e
    obtain rfl := size0 hp
    exact rfeed2_any _ x w rfl h0 h1
  · obtain rfl : a = 3 := e
    exact rfeed3_any t _ x w (by have : t.size ≤ k := hp; omega) rfl h0 h1
end Go.Proofs.YtmheleifjpfciaaDoor
