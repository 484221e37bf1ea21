/- Contracts of limnerref07.ground and of parser.first. -/
import Derived.Test.YtmheleifjpfciaaDoorAref
import Derived.Test.YtmheleifjpfciaaDoorAfull
namespace Go.Proofs.YtmheleifjpfciaaDoor
open Go.RowKit

/-- What a byte asks for, as it is handed back: the state, and a slice. -/
def FeedPost (w : World) (mk : Value) (L : List Ac) (e : Ending) (w' : World) : Prop := ∃ v, e = .returned (.tuple #[mk, v]) ∧ ActsV w' v L ∧ Below w.heap.size w w'
def stV (p : Nat × ByteArray) : Value := .agg #[.int .i64 p.1, .string p.2]
theorem lit_acts (w : World) (E : TypeId) (x : Value × Ac) (hn : NumsV w x.1 x.2.ps) : ActsV (w.alloc (.cells (acCells x).toArray E)) (.slice (some ⟨w.heap.size, 0, none⟩) 1 1) [x.2] := by
  refine ActsV.one (hn.below ((Below.refl _ _).alloc (Nat.le_refl _) _)) fun j u h => ?_
  rw [cell_of_row _ _ j _ E (0, 0) (heap_alloc_new w _)]
  simpa using h
theorem lit_at {w : World} {E : TypeId} {n : Nat} {pv : Value} {l : List Int} {k r f : Int} (hn : NumsV w pv l) (h : w.heap.size = n) : ActsV (w.alloc (.cells #[.int .i64 k, .int .i32 r, pv, .int .u8 f] E)) (.slice (some ⟨n, 0, none⟩) 1 1) [⟨k, r, l, f⟩] := by
  subst h
  exact lit_acts w E (pv, ⟨k, r, l, f⟩) hn
theorem ground_27 : ground 27 = ((2, ⟨#[]⟩), []) := rfl
theorem ground_ctl {x : Int} (h : x ≠ 27) (h1 : x < 32 ∨ x = 127) : ground x = ((0, ⟨#[]⟩), [⟨2, x, [], 0⟩]) := by unfold ground; rw [if_neg h, if_pos h1]
theorem ground_rune {x : Int} (h : 32 ≤ x) (h1 : x < 127) : ground x = ((0, ⟨#[]⟩), [⟨1, x, [], 0⟩]) := by unfold ground; rw [if_neg (by omega), if_neg (by omega), if_pos (by omega)]
theorem ground_beg {x : Int} (h : 128 ≤ x) (hb : begB (strOfNums [x]) = true) : ground x = ((1, strOfNums [x]), []) := by unfold ground; rw [if_neg (by omega), if_neg (by omega), if_neg (by omega), if_pos hb]
theorem ground_bad {x : Int} (h : 128 ≤ x) (hb : begB (strOfNums [x]) = false) : ground x = ((0, ⟨#[]⟩), [inv]) := by unfold ground; rw [if_neg (by omega), if_neg (by omega), if_neg (by omega), if_neg (by simp [hb])]

set_option maxHeartbeats 1000000 in
theorem rground_any (x : Int) (w : World) (h0 : 0 ≤ x) (h1 : x ≤ 255) :
    Calls Tryd.prog 18 #[.int .u8 x] w (FeedPost w (.string (tOf (ground x).1)) (ground x).2) := by
  have c1 := conv_1
  by_cases h2 : x = 27
  · subst h2
    go_enter Tryd.func18, Tryd.ntmps18
    go_wp2
    go_ret2
    exact ⟨_, rfl, ActsV.nil _, (Below.refl _ _).alloc (Nat.le_refl _) _⟩
  by_cases h3 : x < 32
  · rw [ground_ctl h2 (.inl h3)]
    have t1 : (x == 27) = false := by simp [h2]
    go_enter Tryd.func18, Tryd.ntmps18
    go_wp2_with (go_at_call 21; refine (one_any _ _ _).mono ?_; rintro e w' ⟨rfl, rfl⟩)
    go_ret2
    exact ⟨_, rfl, lit_at (NumsV.nil _) (by simp), ((Below.refl _ _).alloc (Nat.le_refl _) _).alloc (by simp) _⟩
  by_cases h4 : x = 127
  · subst h4
    rw [ground_ctl h2 (.inr rfl)]
    go_enter Tryd.func18, Tryd.ntmps18
    go_wp2_with (go_at_call 21; refine (one_any _ _ _).mono ?_; rintro e w' ⟨rfl, rfl⟩)
    go_ret2
    exact ⟨_, rfl, lit_at (NumsV.nil _) (by simp), ((Below.refl _ _).alloc (Nat.le_refl _) _).alloc (by simp) _⟩
  have t1 : (x == 27) = false := by simp [h2]
  have t2 : (x == 127) = false := by simp [h4]
  by_cases h5 : x < 128
  · rw [ground_rune (by omega) (by omega)]
    go_enter Tryd.func18, Tryd.ntmps18
    go_wp2_with (go_at_call 21; refine (one_any _ _ _).mono ?_; rintro e w' ⟨rfl, rfl⟩)
    go_ret2
    exact ⟨_, rfl, lit_at (NumsV.nil _) (by simp), ((Below.refl _ _).alloc (Nat.le_refl _) _).alloc (by simp) _⟩
  have HB := hide (fun W => rbegins_any (strOfNums [x]) W (by rw [one_size]; omega))
  cases hb : begB (strOfNums [x])
  · rw [ground_bad (by omega) hb]
    rw [hb] at HB
    clear hb
    go_enter Tryd.func18, Tryd.ntmps18
    go_wp2_with (first | (go_at_call 22; refine (HB.out _).mono ?_; rintro e w1 ⟨rfl, hb1⟩; clear HB) | (go_at_call 21; refine (one_any _ _ _).mono ?_; rintro e w' ⟨rfl, rfl⟩))
    go_ret2
    exact ⟨_, rfl, lit_at (NumsV.nil _) rfl, (((Below.refl _ _).alloc (Nat.le_refl _) _).trans (hb1.mono (by simp))).alloc (by have := hb1.size; simp at this; omega) _⟩
  · rw [ground_beg (by omega) hb]
    rw [hb] at HB
    clear hb
    go_enter Tryd.func18, Tryd.ntmps18
    go_wp2_with (first | (go_at_call 22; refine (HB.out _).mono ?_; rintro e w1 ⟨rfl, hb1⟩; clear HB) | (go_at_call 21; refine (one_any _ _ _).mono ?_; rintro e w' ⟨rfl, rfl⟩))
    go_ret2
    exact ⟨_, rfl, ActsV.nil _, ((Below.refl _ _).alloc (Nat.le_refl _) _).trans (hb1.mono (by simp))⟩

theorem invalid_any (w : World) : Calls Tryd.prog 28 #[] w fun e w' => e = .returned (.agg #[.int .i64 5, .int .i32 0, .slice none 0 0, .int .u8 0]) ∧ Below w.heap.size w w' := by
  go_enter Tryd.func28, Tryd.ntmps28
  go_wp2
  refine bodyPost_ret (v := .agg #[.int .i64 5, .int .i32 0, .slice none 0 0, .int .u8 0]) (by simp [results, Tryd.results28, go_sem]) rfl ⟨rfl, (Below.refl _ _).alloc (Nat.le_refl _) _⟩

theorem bcellA {W w1 : World} (hb : Below W.heap.size W w1) : (∀ b o, b < W.heap.size → w1.cell? ⟨b, o, none⟩ = W.cell? ⟨b, o, none⟩) ∧ (∀ b o, b < W.heap.size → w1.frozen? ⟨b, o, none⟩ = W.frozen? ⟨b, o, none⟩) :=
  ⟨fun b o h => hb.cell (p := ⟨b, o, none⟩) h, fun b o h => hb.frozen (p := ⟨b, o, none⟩) h⟩
theorem tyBox {w W : World} {c : Array Value} {t : TypeId} (h : Below (w.alloc (.cells c t)).heap.size (w.alloc (.cells c t)) W) : TyA W w.heap.size t := (TyA.new w c t).below h
theorem conv_at {w W : World} (x : Int) (n : Nat) (hW : W = w.alloc (.cells #[.int .u8 x] 5)) (hn : w.heap.size = n) : (convert 46 9 (.slice (some ⟨n, 0, none⟩) 1 1)).run Tryd.prog W = .ok (.string (strOfNums [x])) W := by
  subst hW hn
  exact conv_1 w x
theorem conv_1b (w : World) (A : Obj) (a : Int) : (convert 46 9 (.slice (some ⟨w.heap.size + 1, 0, none⟩) 1 1)).run Tryd.prog ((w.alloc A).alloc (.cells #[.int .u8 a] 5)) = .ok (.string (strOfNums [a])) ((w.alloc A).alloc (.cells #[.int .u8 a] 5)) :=
  conv_at a _ rfl (by simp)
set_option maxHeartbeats 1000000 in
theorem first_any (x : Int) (w : World) (hT : UTabs w) (h0 : 0 ≤ x) (h1 : x ≤ 255) :
    Calls Tryd.prog 15 #[.int .u8 x] w (FeedPost w (stV (ground x).1) (ground x).2) := by
  have c1 := conv_1b
  have HT := hide hT
  clear hT
  by_cases h2 : x = 27
  · subst h2
    go_enter Tryd.func15, Tryd.ntmps15
    go_wp2
    refine bodyPost_ret (v := .tuple #[.agg #[.int .i64 2, .string ⟨#[]⟩], .slice none 0 0]) ?_ rfl ?_
    · simp [results, Tryd.results15, go_sem]
    · exact ⟨_, rfl, ActsV.nil _, ((Below.refl _ _).alloc (Nat.le_refl _) _).alloc (by simp) _⟩
  have t1 : (x == 27) = false := by simp [h2]
  by_cases h3 : x < 32
  · rw [ground_ctl h2 (.inl h3)]
    go_enter Tryd.func15, Tryd.ntmps15
    go_wp2
    refine bodyPost_ret (v := .tuple #[.agg #[.int .i64 0, .string ⟨#[]⟩], .slice (some ⟨w.heap.size + 2, 0, none⟩) 1 1]) ?_ rfl ?_
    · simp [results, Tryd.results15, go_sem]
    · exact ⟨_, rfl, lit_at (NumsV.nil _) (by simp), (((Below.refl _ _).alloc (Nat.le_refl _) _).alloc (by simp) _).alloc (by simp; omega) _⟩
  by_cases h4 : x = 127
  · subst h4
    rw [ground_ctl h2 (.inr rfl)]
    go_enter Tryd.func15, Tryd.ntmps15
    go_wp2
    refine bodyPost_ret (v := .tuple #[.agg #[.int .i64 0, .string ⟨#[]⟩], .slice (some ⟨w.heap.size + 2, 0, none⟩) 1 1]) ?_ rfl ?_
    · simp [results, Tryd.results15, go_sem]
    · exact ⟨_, rfl, lit_at (NumsV.nil _) (by simp), (((Below.refl _ _).alloc (Nat.le_refl _) _).alloc (by simp) _).alloc (by simp; omega) _⟩
  have t2 : (x == 127) = false := by simp [h4]
  by_cases h5 : x < 128
  · rw [ground_rune (by omega) (by omega)]
    go_enter Tryd.func15, Tryd.ntmps15
    go_wp2
    refine bodyPost_ret (v := .tuple #[.agg #[.int .i64 0, .string ⟨#[]⟩], .slice (some ⟨w.heap.size + 2, 0, none⟩) 1 1]) ?_ rfl ?_
    · simp [results, Tryd.results15, go_sem]
    · exact ⟨_, rfl, lit_at (NumsV.nil _) (by simp), (((Below.refl _ _).alloc (Nat.le_refl _) _).alloc (by simp) _).alloc (by simp; omega) _⟩
  have HB := hide (fun W hW => begins_any (strOfNums [x]) W hW)
  have HS := hide ((StBox.new w (.int .i64 0) (.string ⟨#[]⟩)).below ((Below.refl _ _).alloc (Nat.le_refl _) (.cells #[.int .u8 x] 5)))
  have H3 := hide (((Below.refl w.heap.size w).alloc (Nat.le_refl _) (.cells #[.int .i64 0, .string ⟨#[]⟩] 24)).alloc (by simp) (.cells #[.int .u8 x] 5))
  cases hb : begB (strOfNums [x])
  · rw [ground_bad (by omega) hb]
    rw [hb] at HB
    clear hb
    go_enter Tryd.func15, Tryd.ntmps15
    go_wp2_with (first
      | (go_at_call 27; refine (HB.out _ (HT.out.below H3.out)).mono ?_; rintro e w1 ⟨rfl, hb1⟩; clear HB; have hz1 := hb1.size; simp at hz1; replace HS := hide (HS.out.below hb1); replace H3 := hide (H3.out.trans (hb1.mono (by simp; omega))); clear hb1)
      | (go_at_call 28; refine (invalid_any _).mono ?_; rintro e w2 ⟨rfl, hb2⟩; have hz2 := hb2.size; replace HS := hide (HS.out.below hb2); replace H3 := hide (H3.out.trans (hb2.mono (by omega))); clear hb2; obtain ⟨q0, q1, q2, q3, -⟩ := HS.out; have hzl : w.heap.size < w2.heap.size := by omega))
    obtain ⟨r0, r1, -⟩ := (HS.out.set (.int .i64 0) (.string ⟨#[]⟩)).below ((Below.refl _ _).alloc (Nat.le_refl _) (.cells #[.int .i64 5, .int .i32 0, .slice none 0 0, .int .u8 0] 34))
    refine bodyPost_ret (v := .tuple #[.agg #[.int .i64 0, .string ⟨#[]⟩], .slice (some ⟨w2.heap.size, 0, none⟩) 1 1]) ?_ rfl ?_
    · simp [results, Tryd.results15, go_sem, r0, r1]
    · exact ⟨_, rfl, lit_at (NumsV.nil _) (by simp), (((H3.out.setCell (p := ⟨w.heap.size, 0, none⟩) (Nat.le_refl _) _).setCell (p := ⟨w.heap.size, 1, none⟩) (Nat.le_refl _) _).alloc (by simp; omega) _)⟩
  · rw [ground_beg (by omega) hb]
    rw [hb] at HB
    clear hb
    go_enter Tryd.func15, Tryd.ntmps15
    go_wp2_with (first
      | (go_at_call 27; refine (HB.out _ (HT.out.below H3.out)).mono ?_; rintro e w1 ⟨rfl, hb1⟩; clear HB; have hz1 := hb1.size; simp at hz1; replace HS := hide (HS.out.below hb1); replace H3 := hide (H3.out.trans (hb1.mono (by simp; omega))); clear hb1; obtain ⟨q0, q1, q2, q3, -⟩ := HS.out; have hzl : w.heap.size < w1.heap.size := by omega))
    obtain ⟨r0, r1, -⟩ := HS.out.set (.int .i64 1) (.string (strOfNums [x]))
    refine bodyPost_ret (v := .tuple #[.agg #[.int .i64 1, .string (strOfNums [x])], .slice none 0 0]) ?_ rfl ?_
    · simp [results, Tryd.results15, go_sem, r0, r1]
    · exact ⟨_, rfl, ActsV.nil _, (H3.out.setCell (p := ⟨w.heap.size, 0, none⟩) (Nat.le_refl _) _).setCell (p := ⟨w.heap.size, 1, none⟩) (Nat.le_refl _) _⟩
end Go.Proofs.YtmheleifjpfciaaDoor
