/- Contracts of limnerref07.ground and of parser.first. Contract of parser.rune: a byte behind a beginning of a rune. -/
import Derived.Test.YtmemdhmjhckmaaaDoorZ10
import Derived.Test.YtmemdhmjhckmaaaDoorZ11
import Derived.Deep.RegionHeld3
namespace Go.Proofs.YtmemdhmjhckmaaaDoor
open Go.RowKit

/-- What a byte asks for, as it is handed back: the state, and a slice. -/
def FeedPost (w : World) (mk : Value) (L : List Ac) (e : Ending) (w' : World) : Prop := ∃ v, e = .returned (.tuple #[mk, v]) ∧ ActsV w' v L ∧ Below w.heap.size w w'
def stPv (p : Nat × ByteArray) : Value := .agg #[.int .i64 p.1, .string p.2]
theorem lit_acts (w : World) (E : TypeId) (hE : Tryd.prog.cellsOf E = 4) (x : Value × Ac) (hn : NumsV w x.1 x.2.ps) : ActsV (w.alloc (.cells (acCells x).toArray E)) (.slice (some ⟨w.heap.size, 0, none⟩) 1 1) [x.2] := by
  refine ActsV.one ⟨E, TyA.new _ _ _, hE⟩ (hn.below ((Below.refl _ _).alloc (Nat.le_refl _) _)) fun j u h => ?_
  rw [cell_of_row _ _ j _ E (0, 0) (heap_alloc_new w _)]
  simpa using h
theorem lit_at {w : World} {E : TypeId} {n : Nat} {pv : Value} {l : List Int} {k r f : Int} (hn : NumsV w pv l) (h : w.heap.size = n) (hE : Tryd.prog.cellsOf E = 4 := by kernel_rfl) : ActsV (w.alloc (.cells #[.int .i64 k, .int .i32 r, pv, .int .u8 f] E)) (.slice (some ⟨n, 0, none⟩) 1 1) [⟨k, r, l, f⟩] := by
  subst h
  exact lit_acts w E hE (pv, ⟨k, r, l, f⟩) hn
theorem ground_27 : ground 27 = ((2, ⟨#[]⟩), []) := rfl
theorem ground_ctl {x : Int} (h : x ≠ 27) (h1 : x < 32 ∨ x = 127) : ground x = ((0, ⟨#[]⟩), [⟨2, x, [], 0⟩]) := by unfold ground; rw [if_neg h, if_pos h1]
theorem ground_rune {x : Int} (h : 32 ≤ x) (h1 : x < 127) : ground x = ((0, ⟨#[]⟩), [⟨1, x, [], 0⟩]) := by unfold ground; rw [if_neg (by omega), if_neg (by omega), if_pos (by omega)]
theorem ground_beg {x : Int} (h : 128 ≤ x) (hb : begB (strOfNums [x]) = true) : ground x = ((1, strOfNums [x]), []) := by unfold ground; rw [if_neg (by omega), if_neg (by omega), if_neg (by omega), if_pos hb]
theorem ground_bad {x : Int} (h : 128 ≤ x) (hb : begB (strOfNums [x]) = false) : ground x = ((0, ⟨#[]⟩), [inv]) := by unfold ground; rw [if_neg (by omega), if_neg (by omega), if_neg (by omega), if_neg (by simp [hb])]

set_option maxHeartbeats 1000000 in
theorem rground_any (x : Int) (w : World) (h0 : 0 ≤ x) (h1 : x ≤ 255) :
    Calls Tryd.prog 56 #[.int .u8 x] w (FeedPost w (.string (tOf (ground x).1)) (ground x).2) := by
  have c1 := conv_1
  by_cases h2 : x = 27
  · subst h2
    go_enter Tryd.func56, Tryd.ntmps56
    go_wp2
    go_ret2
    exact ⟨_, rfl, ActsV.nil _, (Below.refl _ _).alloc (Nat.le_refl _) _⟩
  by_cases h3 : x < 32
  · rw [ground_ctl h2 (.inl h3)]
    have t1 : (x == 27) = false := by simp [h2]
    go_enter Tryd.func56, Tryd.ntmps56
    go_wp2_with (go_at_call 59; refine (one_any _ _ _).mono ?_; rintro e w' ⟨rfl, rfl⟩)
    go_ret2
    exact ⟨_, rfl, lit_at (NumsV.nil _) (by simp), ((Below.refl _ _).alloc (Nat.le_refl _) _).alloc (by simp) _⟩
  by_cases h4 : x = 127
  · subst h4
    rw [ground_ctl h2 (.inr rfl)]
    go_enter Tryd.func56, Tryd.ntmps56
    go_wp2_with (go_at_call 59; refine (one_any _ _ _).mono ?_; rintro e w' ⟨rfl, rfl⟩)
    go_ret2
    exact ⟨_, rfl, lit_at (NumsV.nil _) (by simp), ((Below.refl _ _).alloc (Nat.le_refl _) _).alloc (by simp) _⟩
  have t1 : (x == 27) = false := by simp [h2]
  have t2 : (x == 127) = false := by simp [h4]
  by_cases h5 : x < 128
  · rw [ground_rune (by omega) (by omega)]
    go_enter Tryd.func56, Tryd.ntmps56
    go_wp2_with (go_at_call 59; refine (one_any _ _ _).mono ?_; rintro e w' ⟨rfl, rfl⟩)
    go_ret2
    exact ⟨_, rfl, lit_at (NumsV.nil _) (by simp), ((Below.refl _ _).alloc (Nat.le_refl _) _).alloc (by simp) _⟩
  have HB := hide (fun W => rbegins_any (strOfNums [x]) W (by rw [one_size]; omega))
  cases hb : begB (strOfNums [x])
  · rw [ground_bad (by omega) hb]
    rw [hb] at HB
    clear hb
    go_enter Tryd.func56, Tryd.ntmps56
    go_wp2_with (first | (go_at_call 60; refine (HB.out _).mono ?_; rintro e w1 ⟨rfl, hb1⟩; clear HB) | (go_at_call 59; refine (one_any _ _ _).mono ?_; rintro e w' ⟨rfl, rfl⟩))
    go_ret2
    exact ⟨_, rfl, lit_at (NumsV.nil _) rfl, (((Below.refl _ _).alloc (Nat.le_refl _) _).trans (hb1.mono (by simp))).alloc (by have := hb1.size; simp at this; omega) _⟩
  · rw [ground_beg (by omega) hb]
    rw [hb] at HB
    clear hb
    go_enter Tryd.func56, Tryd.ntmps56
    go_wp2_with (first | (go_at_call 60; refine (HB.out _).mono ?_; rintro e w1 ⟨rfl, hb1⟩; clear HB) | (go_at_call 59; refine (one_any _ _ _).mono ?_; rintro e w' ⟨rfl, rfl⟩))
    go_ret2
    exact ⟨_, rfl, ActsV.nil _, ((Below.refl _ _).alloc (Nat.le_refl _) _).trans (hb1.mono (by simp))⟩

theorem invalid_any (w : World) : Calls Tryd.prog 75 #[] w fun e w' => e = .returned (.agg #[.int .i64 5, .int .i32 0, .slice none 0 0, .int .u8 0]) ∧ Below w.heap.size w w' := by
  go_enter Tryd.func75, Tryd.ntmps75
  go_wp2
  refine bodyPost_ret (v := .agg #[.int .i64 5, .int .i32 0, .slice none 0 0, .int .u8 0]) (by simp [results, Tryd.results75, go_sem]) rfl ⟨rfl, (Below.refl _ _).alloc (Nat.le_refl _) _⟩

theorem bcellA {W w1 : World} (hb : Below W.heap.size W w1) : (∀ b o, b < W.heap.size → w1.cell? ⟨b, o, none⟩ = W.cell? ⟨b, o, none⟩) ∧ (∀ b o, b < W.heap.size → w1.frozen? ⟨b, o, none⟩ = W.frozen? ⟨b, o, none⟩) :=
  ⟨fun b o h => hb.cell (p := ⟨b, o, none⟩) h, fun b o h => hb.frozen (p := ⟨b, o, none⟩) h⟩
theorem tyBox {w W : World} {c : Array Value} {t : TypeId} (h : Below (w.alloc (.cells c t)).heap.size (w.alloc (.cells c t)) W) : TyA W w.heap.size t := (TyA.new w c t).below h
theorem conv_at {w W : World} (x : Int) (n : Nat) (hW : W = w.alloc (.cells #[.int .u8 x] 5)) (hn : w.heap.size = n) : (convert 96 9 (.slice (some ⟨n, 0, none⟩) 1 1)).run Tryd.prog W = .ok (.string (strOfNums [x])) W := by
  subst hW hn
  exact conv_1 w x
theorem conv_1b (w : World) (A : Obj) (a : Int) : (convert 96 9 (.slice (some ⟨w.heap.size + 1, 0, none⟩) 1 1)).run Tryd.prog ((w.alloc A).alloc (.cells #[.int .u8 a] 5)) = .ok (.string (strOfNums [a])) ((w.alloc A).alloc (.cells #[.int .u8 a] 5)) :=
  conv_at a _ rfl (by simp)
set_option maxHeartbeats 1000000 in
theorem first_any (x : Int) (w : World) (hT : UTabs w) (h0 : 0 ≤ x) (h1 : x ≤ 255) :
    Calls Tryd.prog 49 #[.int .u8 x] w (FeedPost w (stPv (ground x).1) (ground x).2) := by
  have c1 := conv_1b
  have HT := hide hT
  clear hT
  by_cases h2 : x = 27
  · subst h2
    go_enter Tryd.func49, Tryd.ntmps49
    go_wp2
    refine bodyPost_ret (v := .tuple #[.agg #[.int .i64 2, .string ⟨#[]⟩], .slice none 0 0]) ?_ rfl ?_
    · simp [results, Tryd.results49, go_sem]
    · exact ⟨_, rfl, ActsV.nil _, ((Below.refl _ _).alloc (Nat.le_refl _) _).alloc (by simp) _⟩
  have t1 : (x == 27) = false := by simp [h2]
  by_cases h3 : x < 32
  · rw [ground_ctl h2 (.inl h3)]
    go_enter Tryd.func49, Tryd.ntmps49
    go_wp2
    refine bodyPost_ret (v := .tuple #[.agg #[.int .i64 0, .string ⟨#[]⟩], .slice (some ⟨w.heap.size + 2, 0, none⟩) 1 1]) ?_ rfl ?_
    · simp [results, Tryd.results49, go_sem]
    · exact ⟨_, rfl, lit_at (NumsV.nil _) (by simp), (((Below.refl _ _).alloc (Nat.le_refl _) _).alloc (by simp) _).alloc (by simp; omega) _⟩
  by_cases h4 : x = 127
  · subst h4
    rw [ground_ctl h2 (.inr rfl)]
    go_enter Tryd.func49, Tryd.ntmps49
    go_wp2
    refine bodyPost_ret (v := .tuple #[.agg #[.int .i64 0, .string ⟨#[]⟩], .slice (some ⟨w.heap.size + 2, 0, none⟩) 1 1]) ?_ rfl ?_
    · simp [results, Tryd.results49, go_sem]
    · exact ⟨_, rfl, lit_at (NumsV.nil _) (by simp), (((Below.refl _ _).alloc (Nat.le_refl _) _).alloc (by simp) _).alloc (by simp; omega) _⟩
  have t2 : (x == 127) = false := by simp [h4]
  by_cases h5 : x < 128
  · rw [ground_rune (by omega) (by omega)]
    go_enter Tryd.func49, Tryd.ntmps49
    go_wp2
    refine bodyPost_ret (v := .tuple #[.agg #[.int .i64 0, .string ⟨#[]⟩], .slice (some ⟨w.heap.size + 2, 0, none⟩) 1 1]) ?_ rfl ?_
    · simp [results, Tryd.results49, go_sem]
    · exact ⟨_, rfl, lit_at (NumsV.nil _) (by simp), (((Below.refl _ _).alloc (Nat.le_refl _) _).alloc (by simp) _).alloc (by simp; omega) _⟩
  have HB := hide (fun W hW => begins_any (strOfNums [x]) W hW)
  have HS := hide ((StBox.new w (.int .i64 0) (.string ⟨#[]⟩)).below ((Below.refl _ _).alloc (Nat.le_refl _) (.cells #[.int .u8 x] 5)))
  have H3 := hide (((Below.refl w.heap.size w).alloc (Nat.le_refl _) (.cells #[.int .i64 0, .string ⟨#[]⟩] 54)).alloc (by simp) (.cells #[.int .u8 x] 5))
  cases hb : begB (strOfNums [x])
  · rw [ground_bad (by omega) hb]
    rw [hb] at HB
    clear hb
    go_enter Tryd.func49, Tryd.ntmps49
    go_wp2_with (first
      | (go_at_call 74; refine (HB.out _ (HT.out.below H3.out)).mono ?_; rintro e w1 ⟨rfl, hb1⟩; clear HB; have hz1 := hb1.size; simp at hz1; replace HS := hide (HS.out.below hb1); replace H3 := hide (H3.out.trans (hb1.mono (by simp; omega))); clear hb1)
      | (go_at_call 75; refine (invalid_any _).mono ?_; rintro e w2 ⟨rfl, hb2⟩; have hz2 := hb2.size; replace HS := hide (HS.out.below hb2); replace H3 := hide (H3.out.trans (hb2.mono (by omega))); clear hb2; obtain ⟨q0, q1, q2, q3, -⟩ := HS.out; have hzl : w.heap.size < w2.heap.size := by omega))
    obtain ⟨r0, r1, -⟩ := (HS.out.set (.int .i64 0) (.string ⟨#[]⟩)).below ((Below.refl _ _).alloc (Nat.le_refl _) (.cells #[.int .i64 5, .int .i32 0, .slice none 0 0, .int .u8 0] 72))
    refine bodyPost_ret (v := .tuple #[.agg #[.int .i64 0, .string ⟨#[]⟩], .slice (some ⟨w2.heap.size, 0, none⟩) 1 1]) ?_ rfl ?_
    · simp [results, Tryd.results49, go_sem, r0, r1]
    · exact ⟨_, rfl, lit_at (NumsV.nil _) (by simp), (((H3.out.setCell (p := ⟨w.heap.size, 0, none⟩) (Nat.le_refl _) _).setCell (p := ⟨w.heap.size, 1, none⟩) (Nat.le_refl _) _).alloc (by simp; omega) _)⟩
  · rw [ground_beg (by omega) hb]
    rw [hb] at HB
    clear hb
    go_enter Tryd.func49, Tryd.ntmps49
    go_wp2_with (first
      | (go_at_call 74; refine (HB.out _ (HT.out.below H3.out)).mono ?_; rintro e w1 ⟨rfl, hb1⟩; clear HB; have hz1 := hb1.size; simp at hz1; replace HS := hide (HS.out.below hb1); replace H3 := hide (H3.out.trans (hb1.mono (by simp; omega))); clear hb1; obtain ⟨q0, q1, q2, q3, -⟩ := HS.out; have hzl : w.heap.size < w1.heap.size := by omega))
    obtain ⟨r0, r1, -⟩ := HS.out.set (.int .i64 1) (.string (strOfNums [x]))
    refine bodyPost_ret (v := .tuple #[.agg #[.int .i64 1, .string (strOfNums [x])], .slice none 0 0]) ?_ rfl ?_
    · simp [results, Tryd.results49, go_sem, r0, r1]
    · exact ⟨_, rfl, ActsV.nil _, (H3.out.setCell (p := ⟨w.heap.size, 0, none⟩) (Nat.le_refl _) _).setCell (p := ⟨w.heap.size, 1, none⟩) (Nat.le_refl _) _⟩
end Go.Proofs.YtmemdhmjhckmaaaDoor
namespace Go.Proofs.YtmemdhmjhckmaaaDoor
open Go.RowKit
set_option maxRecDepth 100000

theorem conv_1c (w : World) (A C : Obj) (a : Int) : (convert 96 9 (.slice (some ⟨w.heap.size + 1 + 1, 0, none⟩) 1 1)).run Tryd.prog (((w.alloc A).alloc C).alloc (.cells #[.int .u8 a] 5)) = .ok (.string (strOfNums [a])) (((w.alloc A).alloc C).alloc (.cells #[.int .u8 a] 5)) :=
  conv_at a _ rfl (by simp)
theorem next_0 (s : ByteArray) (w : World) (hs : s.size ≤ 1048576) (h : 0 < s.size) (hT : UTabs w) (b : Bool) (hb : (dec3 s 0).2.2 = b) :
    Calls Tryd.prog 17 #[.string s, .int .i64 0] w fun e w' => e = .returned (.tuple #[.int .i32 (Utf8.decode s 0).1, .int .i64 (Utf8.decode s 0).2, .bool b]) ∧ Below w.heap.size w w' := by
  have h1 := next_any s 0 w hs h hT
  subst hb
  exact h1
theorem whole_dec {s : ByteArray} : wholeB s = ((dec3 s 0).2.2 && decide ((Utf8.decode s 0).2 = s.size)) := rfl
theorem inRune_whole {t : ByteArray} {x : Int} {s : ByteArray} (hs : t ++ strOfNums [x] = s) (h : wholeB s = true) : inRune t x = ((0, ⟨#[]⟩), [⟨1, (Utf8.decode s 0).1, [], 0⟩]) := by subst hs; unfold inRune; rw [if_pos h]
theorem inRune_beg {t : ByteArray} {x : Int} {s : ByteArray} (hs : t ++ strOfNums [x] = s) (h : wholeB s = false) (hb : begB s = true) : inRune t x = ((1, s), []) := by subst hs; unfold inRune; rw [if_neg (by simp [h]), if_pos hb]
theorem inRune_bad {t : ByteArray} {x : Int} {s : ByteArray} (hs : t ++ strOfNums [x] = s) (h : wholeB s = false) (hb : begB s = false) : inRune t x = ((ground x).1, inv :: (ground x).2) := by subst hs; unfold inRune; rw [if_neg (by simp [h]), if_neg (by simp [hb])]
theorem whole_two {s : ByteArray} (h : wholeB s = false) : ((dec3 s 0).2.2 = false) ∨ ((dec3 s 0).2.2 = true ∧ (((Utf8.decode s 0).2 : Int) == (s.size : Int)) = false) := by
  rw [whole_dec] at h
  cases hb : (dec3 s 0).2.2
  · exact .inl rfl
  · rw [hb] at h
    refine .inr ⟨rfl, ?_⟩
    rw [eq_decB]
    simpa using h
theorem ground_few (x : Int) : (ground x).2.length ≤ 1 := by
  unfold ground
  (repeat' split) <;> simp

theorem far2 {W : World} {b N : Nat} {x y u v : Value} (h : W.cell? ⟨N, 0, none⟩ = some u ∧ W.cell? ⟨N, 1, none⟩ = some v) (hb : b ≠ N) :
    ((W.setCell ⟨b, 0, none⟩ x).setCell ⟨b, 1, none⟩ y).cell? ⟨N, 0, none⟩ = some u ∧ ((W.setCell ⟨b, 0, none⟩ x).setCell ⟨b, 1, none⟩ y).cell? ⟨N, 1, none⟩ = some v :=
  ⟨by rw [World.cell?_setCell_far _ _ _ _ hb, World.cell?_setCell_far _ _ _ _ hb]; exact h.1, by rw [World.cell?_setCell_far _ _ _ _ hb, World.cell?_setCell_far _ _ _ _ hb]; exact h.2⟩
set_option maxHeartbeats 2000000 in
theorem prune_any (t : ByteArray) (x : Int) (w : World) (hT : UTabs w) (ht : t.size ≤ 3) (h0 : 0 ≤ x) (h1 : x ≤ 255) :
    Calls Tryd.prog 50 #[.agg #[.int .i64 1, .string t], .int .u8 x] w (FeedPost w (stPv (inRune t x).1) (inRune t x).2) := by
  have c1 := conv_1c
  have ht1 : (t.size : Int) ≤ 3 := by omega
  have HT := hide hT
  clear hT
  have o1 : ((strOfNums [x]).size : Int) ≤ 1 := by rw [one_size]; omega
  obtain ⟨s, hs⟩ : ∃ s, t ++ strOfNums [x] = s := ⟨_, rfl⟩
  have hz : s.size = t.size + 1 := by rw [← hs, join_size, one_size]
  have hz2 : s.size ≤ 1048576 := by omega
  have hz3 : 0 < s.size := by omega
  have HS := hide hs
  have HA := hide (((StBox.new (w.alloc (.cells #[.int .i64 1, .string t] 54)) (.int .i64 0) (.string ⟨#[]⟩)).below ((Below.refl _ _).alloc (Nat.le_refl _) (.cells #[.int .u8 x] 5))))
  have H3 := hide ((((Below.refl w.heap.size w).alloc (Nat.le_refl _) (.cells #[.int .i64 1, .string t] 54)).alloc (by simp) (.cells #[.int .i64 0, .string ⟨#[]⟩] 54)).alloc (by simp; omega) (.cells #[.int .u8 x] 5))
  rw [World.size_alloc] at HA
  have HN := hide (fun W hW b hb => next_0 s W hz2 hz3 hW b hb)
  have HBE := hide (fun W hW => begins_any s W hW)
  clear hz hz2 hz3
  cases hw : wholeB s
  · have hW2 := hide (whole_two hw)
    cases hbg : begB s
    · rw [inRune_bad hs hw hbg]
      rw [hbg] at HBE
      have hl : ([inv] : List Ac).length + (ground x).2.length ≤ 1000000 := by have := ground_few x; simp; omega
      have HF := hide (fun W hW => first_any x W hW h0 h1)
      obtain ⟨⟨⟨ga, gt⟩, gl⟩, hg⟩ : ∃ g, ground x = g := ⟨_, rfl⟩
      rw [hg] at HF hl ⊢
      replace HF : Hid (∀ W, UTabs W → Calls Tryd.prog 49 #[.int .u8 x] W (FeedPost W (.agg #[.int .i64 ga, .string gt]) gl)) := HF
      have HLen := hide hl
      clear hl hs hw hbg hg
      rcases hW2.out with hok | ⟨hok, hne⟩
      · replace HN := hide (fun W hW => HN.out W hW _ hok)
        clear hok hW2
        generalize (Utf8.decode s 0).1 = r at *
        generalize (Utf8.decode s 0).2 = n at *
        go_enter Tryd.func50, Tryd.ntmps50
        go_wp2_with (first
          | (go_at_call 17; rw [HS.out]; refine (HN.out _ (HT.out.below H3.out)).mono ?_; rintro e w1 ⟨rfl, hb1⟩; clear HN; have hz1 := hb1.size; simp at hz1; replace HA := hide (HA.out.below hb1); replace H3 := hide (H3.out.trans (hb1.mono (by simp; omega))); clear hb1)
          | (go_at_call 74; refine (HBE.out _ (HT.out.below H3.out)).mono ?_; rintro e w2 ⟨rfl, hb1⟩; clear HBE; have hz2 := hb1.size; replace HA := hide (HA.out.below hb1); replace H3 := hide (H3.out.trans (hb1.mono (by omega))); clear hb1)
          | (go_at_call 49; refine (HF.out _ (HT.out.below H3.out)).mono ?_; rintro e w3 ⟨fv, rfl, hacts, hb1⟩; have hz3 := hb1.size; replace HA := hide (HA.out.below hb1); replace H3 := hide (H3.out.trans (hb1.mono (by omega))); clear hb1; have HAC := hide hacts; clear hacts))
        have hst : StBox (w3.alloc (.cells #[.int .i64 ga, .string gt] 54)) w3.heap.size (.int .i64 ga) (.string gt) := StBox.new _ _ _
        have hA0 := HA.out.below ((Below.refl _ _).alloc (Nat.le_refl _) (.cells #[.int .i64 ga, .string gt] 54))
        have hB0 := H3.out.alloc (by omega) (.cells #[.int .i64 ga, .string gt] 54)
        have hC0 := HAC.out.below ((Below.refl _ _).alloc (Nat.le_refl _) (.cells #[.int .i64 ga, .string gt] 54))
        have hsz0 : (w3.alloc (.cells #[.int .i64 ga, .string gt] 54)).heap.size = w3.heap.size + 1 := by simp
        clear HA H3 HAC
        obtain ⟨N, hN⟩ : ∃ N, w3.heap.size = N := ⟨_, rfl⟩
        rw [hN] at hst hsz0 hz3 ⊢
        generalize w3.alloc (.cells #[.int .i64 ga, .string gt] 54) = W0 at hst hA0 hB0 hC0 hsz0 ⊢
        clear hN
        have hnb : w.heap.size + 1 < N := by omega
        have hW0 : N + 1 ≤ W0.drew.heap.size := by show N + 1 ≤ W0.heap.size; omega
        have HQ : Hid (StBox W0.drew N (.int .i64 ga) (.string gt)) := hst
        have HA : Hid (StBox W0.drew (w.heap.size + 1) (.int .i64 0) (.string ⟨#[]⟩)) := hA0
        have H3 : Hid (Below w.heap.size w W0.drew) := hB0.drew
        have HAC : Hid (ActsV W0.drew fv gl) := hC0
        clear hst hA0 hB0 hC0 hsz0
        go_region_held3 (fun W => W.cell? ⟨N, 0, none⟩ = some (.int .i64 ga) ∧ W.cell? ⟨N, 1, none⟩ = some (.string gt))
          (first | exact ⟨HQ.out.1, HQ.out.2.1⟩ | exact ⟨HQ4.out.1, HQ4.out.2.1⟩ | exact ⟨HQ5.out.1, HQ5.out.2.1⟩ | exact HQ6.out | exact far2 HQ6.out (by omega))
          (first
            | (go_at_call 75; refine (invalid_any _).mono ?_; rintro e w4 ⟨rfl, hb4⟩; have HQ4 := hide (HQ.out.below hb4); have HAL := hide ((Below.refl w4.heap.size w4).alloc (Nat.le_refl _) (.cells #[.int .i64 5, .int .i32 0, .slice none 0 0, .int .u8 0] 72)); have HQ5 := hide (HQ4.out.below HAL.out); have HA5 := hide ((HA.out.below hb4).below HAL.out); have HAC5 := hide ((HAC.out.below hb4).below HAL.out); have hz4 : N + 1 ≤ w4.heap.size := Nat.le_trans hW0 hb4.size; have H5 := hide ((H3.out.trans (hb4.mono (by omega))).trans (HAL.out.mono (by omega))); clear hb4 hW0)
            | (refine step_acts (by rfl) (.tmp 46) (.tmp 47) 68 72 (.agg #[.int .i64 0, .int .i32 0, .slice none 0 0, .int .u8 0]) (by rfl) (N + 1) (by simp; omega) Tryd.underlying68 (by decide) info_acP (by rfl) (.slice (some ⟨w4.heap.size, 0, none⟩) 1 1) fv [inv] gl (by rfl) (by rfl) (OwnA.lit (x := (.slice none 0 0, inv)) hz4 (heap_alloc_new w4 _) (NumsV.nil _)) HAC5.out HLen.out ?_; intro v6 w6 ho6 hb6 hv6; have HQ6 := hide (show w6.cell? ⟨N, 0, none⟩ = some (.int .i64 ga) ∧ w6.cell? ⟨N, 1, none⟩ = some (.string gt) from ⟨(hb6.cell (p := ⟨N, 0, none⟩) (by show N < N + 1; omega)).trans HQ5.out.1, (hb6.cell (p := ⟨N, 1, none⟩) (by show N < N + 1; omega)).trans HQ5.out.2.1⟩); have HA6 := hide (HA5.out.under hb6 (by omega)); have H6 := hide ((H5.out.trans (hb6.mono (by omega)))); have hz6 : w.heap.size + 1 < w6.heap.size := HA6.out.lt; obtain ⟨q0, q1, q2, q3, -⟩ := HA6.out; have HO6 := hide ho6; clear ho6 hb6 hv6)
            | fail)
        go_wp2
        obtain ⟨r0, r1, -⟩ := HA6.out.set (.int .i64 ga) (.string gt)
        obtain ⟨A9, c9, rfl⟩ := HO6.out.form
        have HO7 := hide ((HO6.out.set (p := ⟨w.heap.size + 1, 0, none⟩) HA6.out.2.2.2.2 (by decide) (by decide) (.int .i64 ga)).set (p := ⟨w.heap.size + 1, 1, none⟩) (HA6.out.2.2.2.2.setCell _ _) (by decide) (by decide) (.string gt))
        refine bodyPost_ret (v := .tuple #[.agg #[.int .i64 ga, .string gt], .slice A9 ([inv] ++ gl).length c9]) ?_ rfl ?_
        · simp [results, Tryd.results50, go_sem, r0, r1]
        · exact ⟨_, rfl, HO7.out.acts (fun e => by cases e), (H6.out.setCell (p := ⟨w.heap.size + 1, 0, none⟩) (Nat.le_succ _) _).setCell (p := ⟨w.heap.size + 1, 1, none⟩) (Nat.le_succ _) _⟩
      · replace HN := hide (fun W hW => HN.out W hW _ hok)
        have hne2 := hne
        clear hok hW2 hne
        generalize (Utf8.decode s 0).1 = r at *
        generalize (Utf8.decode s 0).2 = n at *
        go_enter Tryd.func50, Tryd.ntmps50
        go_wp2_with (first
          | (go_at_call 17; rw [HS.out]; refine (HN.out _ (HT.out.below H3.out)).mono ?_; rintro e w1 ⟨rfl, hb1⟩; clear HN; have hz1 := hb1.size; simp at hz1; replace HA := hide (HA.out.below hb1); replace H3 := hide (H3.out.trans (hb1.mono (by simp; omega))); clear hb1)
          | (go_at_call 74; refine (HBE.out _ (HT.out.below H3.out)).mono ?_; rintro e w2 ⟨rfl, hb1⟩; clear HBE; have hz2 := hb1.size; replace HA := hide (HA.out.below hb1); replace H3 := hide (H3.out.trans (hb1.mono (by omega))); clear hb1)
          | (go_at_call 49; refine (HF.out _ (HT.out.below H3.out)).mono ?_; rintro e w3 ⟨fv, rfl, hacts, hb1⟩; have hz3 := hb1.size; replace HA := hide (HA.out.below hb1); replace H3 := hide (H3.out.trans (hb1.mono (by omega))); clear hb1; have HAC := hide hacts; clear hacts))
        have hst : StBox (w3.alloc (.cells #[.int .i64 ga, .string gt] 54)) w3.heap.size (.int .i64 ga) (.string gt) := StBox.new _ _ _
        have hA0 := HA.out.below ((Below.refl _ _).alloc (Nat.le_refl _) (.cells #[.int .i64 ga, .string gt] 54))
        have hB0 := H3.out.alloc (by omega) (.cells #[.int .i64 ga, .string gt] 54)
        have hC0 := HAC.out.below ((Below.refl _ _).alloc (Nat.le_refl _) (.cells #[.int .i64 ga, .string gt] 54))
        have hsz0 : (w3.alloc (.cells #[.int .i64 ga, .string gt] 54)).heap.size = w3.heap.size + 1 := by simp
        clear HA H3 HAC
        obtain ⟨N, hN⟩ : ∃ N, w3.heap.size = N := ⟨_, rfl⟩
        rw [hN] at hst hsz0 hz3 ⊢
        generalize w3.alloc (.cells #[.int .i64 ga, .string gt] 54) = W0 at hst hA0 hB0 hC0 hsz0 ⊢
        clear hN
        have hnb : w.heap.size + 1 < N := by omega
        have hW0 : N + 1 ≤ W0.drew.heap.size := by show N + 1 ≤ W0.heap.size; omega
        have HQ : Hid (StBox W0.drew N (.int .i64 ga) (.string gt)) := hst
        have HA : Hid (StBox W0.drew (w.heap.size + 1) (.int .i64 0) (.string ⟨#[]⟩)) := hA0
        have H3 : Hid (Below w.heap.size w W0.drew) := hB0.drew
        have HAC : Hid (ActsV W0.drew fv gl) := hC0
        clear hst hA0 hB0 hC0 hsz0
        go_region_held3 (fun W => W.cell? ⟨N, 0, none⟩ = some (.int .i64 ga) ∧ W.cell? ⟨N, 1, none⟩ = some (.string gt))
          (first | exact ⟨HQ.out.1, HQ.out.2.1⟩ | exact ⟨HQ4.out.1, HQ4.out.2.1⟩ | exact ⟨HQ5.out.1, HQ5.out.2.1⟩ | exact HQ6.out | exact far2 HQ6.out (by omega))
          (first
            | (go_at_call 75; refine (invalid_any _).mono ?_; rintro e w4 ⟨rfl, hb4⟩; have HQ4 := hide (HQ.out.below hb4); have HAL := hide ((Below.refl w4.heap.size w4).alloc (Nat.le_refl _) (.cells #[.int .i64 5, .int .i32 0, .slice none 0 0, .int .u8 0] 72)); have HQ5 := hide (HQ4.out.below HAL.out); have HA5 := hide ((HA.out.below hb4).below HAL.out); have HAC5 := hide ((HAC.out.below hb4).below HAL.out); have hz4 : N + 1 ≤ w4.heap.size := Nat.le_trans hW0 hb4.size; have H5 := hide ((H3.out.trans (hb4.mono (by omega))).trans (HAL.out.mono (by omega))); clear hb4 hW0)
            | (refine step_acts (by rfl) (.tmp 46) (.tmp 47) 68 72 (.agg #[.int .i64 0, .int .i32 0, .slice none 0 0, .int .u8 0]) (by rfl) (N + 1) (by simp; omega) Tryd.underlying68 (by decide) info_acP (by rfl) (.slice (some ⟨w4.heap.size, 0, none⟩) 1 1) fv [inv] gl (by rfl) (by rfl) (OwnA.lit (x := (.slice none 0 0, inv)) hz4 (heap_alloc_new w4 _) (NumsV.nil _)) HAC5.out HLen.out ?_; intro v6 w6 ho6 hb6 hv6; have HQ6 := hide (show w6.cell? ⟨N, 0, none⟩ = some (.int .i64 ga) ∧ w6.cell? ⟨N, 1, none⟩ = some (.string gt) from ⟨(hb6.cell (p := ⟨N, 0, none⟩) (by show N < N + 1; omega)).trans HQ5.out.1, (hb6.cell (p := ⟨N, 1, none⟩) (by show N < N + 1; omega)).trans HQ5.out.2.1⟩); have HA6 := hide (HA5.out.under hb6 (by omega)); have H6 := hide ((H5.out.trans (hb6.mono (by omega)))); have hz6 : w.heap.size + 1 < w6.heap.size := HA6.out.lt; obtain ⟨q0, q1, q2, q3, -⟩ := HA6.out; have HO6 := hide ho6; clear ho6 hb6 hv6)
            | fail)
        go_wp2
        obtain ⟨r0, r1, -⟩ := HA6.out.set (.int .i64 ga) (.string gt)
        obtain ⟨A9, c9, rfl⟩ := HO6.out.form
        have HO7 := hide ((HO6.out.set (p := ⟨w.heap.size + 1, 0, none⟩) HA6.out.2.2.2.2 (by decide) (by decide) (.int .i64 ga)).set (p := ⟨w.heap.size + 1, 1, none⟩) (HA6.out.2.2.2.2.setCell _ _) (by decide) (by decide) (.string gt))
        refine bodyPost_ret (v := .tuple #[.agg #[.int .i64 ga, .string gt], .slice A9 ([inv] ++ gl).length c9]) ?_ rfl ?_
        · simp [results, Tryd.results50, go_sem, r0, r1]
        · exact ⟨_, rfl, HO7.out.acts (fun e => by cases e), (H6.out.setCell (p := ⟨w.heap.size + 1, 0, none⟩) (Nat.le_succ _) _).setCell (p := ⟨w.heap.size + 1, 1, none⟩) (Nat.le_succ _) _⟩
    · rw [inRune_beg hs hw hbg]
      rw [hbg] at HBE
      clear hs hw hbg
      rcases hW2.out with hok | ⟨hok, hne⟩
      · replace HN := hide (fun W hW => HN.out W hW _ hok)
        clear hok hW2
        generalize (Utf8.decode s 0).1 = r at *
        generalize (Utf8.decode s 0).2 = n at *
        go_enter Tryd.func50, Tryd.ntmps50
        go_wp2_with (first
          | (go_at_call 17; rw [HS.out]; refine (HN.out _ (HT.out.below H3.out)).mono ?_; rintro e w1 ⟨rfl, hb1⟩; clear HN; have hz1 := hb1.size; simp at hz1; replace HA := hide (HA.out.below hb1); replace H3 := hide (H3.out.trans (hb1.mono (by simp; omega))); clear hb1)
          | (go_at_call 74; refine (HBE.out _ (HT.out.below H3.out)).mono ?_; rintro e w2 ⟨rfl, hb1⟩; clear HBE; have hz2 := hb1.size; replace HA := hide (HA.out.below hb1); replace H3 := hide (H3.out.trans (hb1.mono (by omega))); clear hb1; obtain ⟨q0, q1, q2, q3, -⟩ := HA.out; have hzl : w.heap.size + 1 < w2.heap.size := HA.out.lt)
          | fail)
        obtain ⟨r0, r1, -⟩ := HA.out.set (.int .i64 1) (.string s)
        refine bodyPost_ret (v := .tuple #[.agg #[.int .i64 1, .string s], .slice none 0 0]) ?_ rfl ?_
        · simp [results, Tryd.results50, go_sem, r0, r1]
        · exact ⟨_, rfl, ActsV.nil _, (H3.out.setCell (p := ⟨w.heap.size + 1, 0, none⟩) (Nat.le_succ _) _).setCell (p := ⟨w.heap.size + 1, 1, none⟩) (Nat.le_succ _) _⟩
      · replace HN := hide (fun W hW => HN.out W hW _ hok)
        clear hok hW2
        have hne2 := hne
        clear hne
        generalize (Utf8.decode s 0).1 = r at *
        generalize (Utf8.decode s 0).2 = n at *
        go_enter Tryd.func50, Tryd.ntmps50
        go_wp2_with (first
          | (go_at_call 17; rw [HS.out]; refine (HN.out _ (HT.out.below H3.out)).mono ?_; rintro e w1 ⟨rfl, hb1⟩; clear HN; have hz1 := hb1.size; simp at hz1; replace HA := hide (HA.out.below hb1); replace H3 := hide (H3.out.trans (hb1.mono (by simp; omega))); clear hb1)
          | (go_at_call 74; refine (HBE.out _ (HT.out.below H3.out)).mono ?_; rintro e w2 ⟨rfl, hb1⟩; clear HBE; have hz2 := hb1.size; replace HA := hide (HA.out.below hb1); replace H3 := hide (H3.out.trans (hb1.mono (by omega))); clear hb1; obtain ⟨q0, q1, q2, q3, -⟩ := HA.out; have hzl : w.heap.size + 1 < w2.heap.size := HA.out.lt)
          | fail)
        obtain ⟨r0, r1, -⟩ := HA.out.set (.int .i64 1) (.string s)
        refine bodyPost_ret (v := .tuple #[.agg #[.int .i64 1, .string s], .slice none 0 0]) ?_ rfl ?_
        · simp [results, Tryd.results50, go_sem, r0, r1]
        · exact ⟨_, rfl, ActsV.nil _, (H3.out.setCell (p := ⟨w.heap.size + 1, 0, none⟩) (Nat.le_succ _) _).setCell (p := ⟨w.heap.size + 1, 1, none⟩) (Nat.le_succ _) _⟩
  · rw [inRune_whole hs hw]
    rw [whole_dec, Bool.and_eq_true] at hw
    have hne : (((Utf8.decode s 0).2 : Int) == (s.size : Int)) = true := by rw [eq_decB]; exact hw.2
    have hok := hw.1
    replace HN := hide (fun W hW => HN.out W hW _ hok)
    clear hok hs hw
    generalize (Utf8.decode s 0).1 = r at *
    generalize (Utf8.decode s 0).2 = n at *
    go_enter Tryd.func50, Tryd.ntmps50
    go_wp2_with (first
          | (go_at_call 17; rw [HS.out]; refine (HN.out _ (HT.out.below H3.out)).mono ?_; rintro e w1 ⟨rfl, hb1⟩; clear HN; have hz1 := hb1.size; simp at hz1; replace HA := hide (HA.out.below hb1); replace H3 := hide (H3.out.trans (hb1.mono (by simp; omega))); clear hb1; obtain ⟨q0, q1, q2, q3, -⟩ := HA.out; have hzl : w.heap.size + 1 < w1.heap.size := HA.out.lt)
          | fail)
    obtain ⟨r0, r1, -⟩ := (HA.out.set (.int .i64 0) (.string ⟨#[]⟩)).below ((Below.refl _ _).alloc (Nat.le_refl _) (.cells #[.int .i64 1, .int .i32 r, .slice none 0 0, .int .u8 0] 72))
    refine bodyPost_ret (v := .tuple #[.agg #[.int .i64 0, .string ⟨#[]⟩], .slice (some ⟨w1.heap.size, 0, none⟩) 1 1]) ?_ rfl ?_
    · simp [results, Tryd.results50, go_sem, r0, r1]
    · exact ⟨_, rfl, lit_at (NumsV.nil _) (by simp), (((H3.out.setCell (p := ⟨w.heap.size + 1, 0, none⟩) (Nat.le_succ _) _).setCell (p := ⟨w.heap.size + 1, 1, none⟩) (Nat.le_succ _) _).alloc (by simp; omega) _)⟩
end Go.Proofs.YtmemdhmjhckmaaaDoor
