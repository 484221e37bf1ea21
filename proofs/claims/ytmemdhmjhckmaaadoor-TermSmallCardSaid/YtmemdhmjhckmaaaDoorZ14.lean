/- Contract of parser.sequence: a byte behind an escape, or a sequence. Plain: the numbers of a sequence, part by part; and where the parts lie while parser.params runs. -/
import Derived.Test.YtmemdhmjhckmaaaDoorZ13
import Derived.Test.YtmemdhmjhckmaaaDoorZ1
import Derived.Laws.RangeAny
import Derived.Lib.OthersKept
import Derived.Lib.IndexLaws
namespace Go.Proofs.YtmemdhmjhckmaaaDoor
open Go.RowKit
set_option maxRecDepth 100000

theorem conv_1d (w : World) (A C : Obj) (a : Int) : (convert 96 9 (.slice (some ⟨w.heap.size + 1 + 1, 0, none⟩) 1 1)).run Tryd.prog (((w.alloc A).alloc C).alloc (.cells #[.int .u8 a] 5)) = .ok (.string (strOfNums [a])) (((w.alloc A).alloc C).alloc (.cells #[.int .u8 a] 5)) :=
  conv_at a _ rfl (by simp)
theorem nums_far {W : World} {v : Value} {l : List Int} (h : NumsV W v l) {b : Nat} {T : TypeId} (hp : TyA W b T) (h1 : T ≠ 3) {p : Addr} (u : Value) (hpb : p.block = b) : NumsV (W.setCell p u) v l := by
  subst hpb
  refine grown_nums h (grown_setA W p u) ?_
  rintro k e ⟨cs, f, hk⟩
  injection e with e
  subst e
  obtain ⟨c, fz, hh⟩ := hp
  rw [hh] at hk
  injection hk with hk
  injection hk with _ hk _
  exact h1 hk
set_option maxRecDepth 100000 in
set_option maxHeartbeats 2000000 in
theorem pseq2_any (t : ByteArray) (x : Int) (w : World) (ht : t.size ≤ 100000) (h0 : 0 ≤ x) (h1 : x ≤ 255) :
    Calls Tryd.prog 51 #[.agg #[.int .i64 2, .string t], .int .u8 x] w (FeedPost w (stPv (inSeq 2 t x).1) (inSeq 2 t x).2) := by
  have c1 := conv_1d
  have ht1 : (t.size : Int) ≤ 100000 := by omega
  have o1 : ((strOfNums [x]).size : Int) ≤ 1 := by rw [one_size]; omega
  have HA := hide (StBox.new (w.alloc (.cells #[.int .i64 2, .string t] 54)) (.int .i64 0) (.string ⟨#[]⟩))
  have H3 := hide (((Below.refl w.heap.size w).alloc (Nat.le_refl _) (.cells #[.int .i64 2, .string t] 54)).alloc (by simp) (.cells #[.int .i64 0, .string ⟨#[]⟩] 54))
  rw [World.size_alloc] at HA
  by_cases h2 : x = 27
  · subst h2
    rw [seq_27]
    go_enter Tryd.func51, Tryd.ntmps51
    go_wp2_with (first | (go_at_call 75; refine (invalid_any _).mono ?_; rintro e w2 ⟨rfl, hb2⟩; replace HA := hide (HA.out.below hb2); replace H3 := hide (H3.out.trans (hb2.mono (by first | omega | (simp; omega)))); clear hb2; obtain ⟨q0, q1, q2, q3, -⟩ := HA.out; have hzl : w.heap.size + 1 < w2.heap.size := HA.out.lt) | fail)
    obtain ⟨r0, r1, -⟩ := (HA.out.set (.int .i64 2) (.string ⟨#[]⟩)).below ((Below.refl _ _).alloc (Nat.le_refl _) (.cells #[.int .i64 5, .int .i32 0, .slice none 0 0, .int .u8 0] 72))
    refine bodyPost_ret (v := .tuple #[.agg #[.int .i64 2, .string ⟨#[]⟩], .slice (some ⟨w2.heap.size, 0, none⟩) 1 1]) ?_ rfl ?_
    · simp [results, Tryd.results51, go_sem, r0, r1]
    · exact ⟨_, rfl, lit_at (NumsV.nil _) (by simp), (((H3.out.setCell (p := ⟨w.heap.size + 1, 0, none⟩) (Nat.le_succ _) _).setCell (p := ⟨w.heap.size + 1, 1, none⟩) (Nat.le_succ _) _).alloc (by simp; omega) _)⟩
  by_cases h3 : x = 24
  · subst h3
    rw [seq_24]
    go_enter Tryd.func51, Tryd.ntmps51
    go_wp2_with (first | (go_at_call 75; refine (invalid_any _).mono ?_; rintro e w2 ⟨rfl, hb2⟩; replace HA := hide (HA.out.below hb2); replace H3 := hide (H3.out.trans (hb2.mono (by first | omega | (simp; omega)))); clear hb2; obtain ⟨q0, q1, q2, q3, -⟩ := HA.out; have hzl : w.heap.size + 1 < w2.heap.size := HA.out.lt) | fail)
    obtain ⟨r0, r1, -⟩ := (HA.out.set (.int .i64 0) (.string ⟨#[]⟩)).below ((Below.refl _ _).alloc (Nat.le_refl _) (.cells #[.int .i64 5, .int .i32 0, .slice none 0 0, .int .u8 0] 72))
    refine bodyPost_ret (v := .tuple #[.agg #[.int .i64 0, .string ⟨#[]⟩], .slice (some ⟨w2.heap.size, 0, none⟩) 1 1]) ?_ rfl ?_
    · simp [results, Tryd.results51, go_sem, r0, r1]
    · exact ⟨_, rfl, lit_at (NumsV.nil _) (by simp), (((H3.out.setCell (p := ⟨w.heap.size + 1, 0, none⟩) (Nat.le_succ _) _).setCell (p := ⟨w.heap.size + 1, 1, none⟩) (Nat.le_succ _) _).alloc (by simp; omega) _)⟩
  by_cases h4 : x = 26
  · subst h4
    rw [seq_26]
    go_enter Tryd.func51, Tryd.ntmps51
    go_wp2_with (first | (go_at_call 75; refine (invalid_any _).mono ?_; rintro e w2 ⟨rfl, hb2⟩; replace HA := hide (HA.out.below hb2); replace H3 := hide (H3.out.trans (hb2.mono (by first | omega | (simp; omega)))); clear hb2; obtain ⟨q0, q1, q2, q3, -⟩ := HA.out; have hzl : w.heap.size + 1 < w2.heap.size := HA.out.lt) | fail)
    obtain ⟨r0, r1, -⟩ := (HA.out.set (.int .i64 0) (.string ⟨#[]⟩)).below ((Below.refl _ _).alloc (Nat.le_refl _) (.cells #[.int .i64 5, .int .i32 0, .slice none 0 0, .int .u8 0] 72))
    refine bodyPost_ret (v := .tuple #[.agg #[.int .i64 0, .string ⟨#[]⟩], .slice (some ⟨w2.heap.size, 0, none⟩) 1 1]) ?_ rfl ?_
    · simp [results, Tryd.results51, go_sem, r0, r1]
    · exact ⟨_, rfl, lit_at (NumsV.nil _) (by simp), (((H3.out.setCell (p := ⟨w.heap.size + 1, 0, none⟩) (Nat.le_succ _) _).setCell (p := ⟨w.heap.size + 1, 1, none⟩) (Nat.le_succ _) _).alloc (by simp; omega) _)⟩
  have t1 : (x == 27) = false := by simp [h2]
  have t2 : (x == 24) = false := by simp [h3]
  have t3 : (x == 26) = false := by simp [h4]
  by_cases h5 : x < 32
  · rw [seq_ctl h2 h3 h4 h5]
    go_enter Tryd.func51, Tryd.ntmps51
    go_wp2
    refine bodyPost_ret (v := .tuple #[.agg #[.int .i64 2, .string t], .slice (some ⟨w.heap.size + 1 + 1, 0, none⟩) 1 1]) ?_ rfl ?_
    · simp [results, Tryd.results51, go_sem]
    · exact ⟨_, rfl, lit_at (NumsV.nil _) (by simp), (((Below.refl _ _).alloc (Nat.le_refl _) _).alloc (by simp) _).alloc (by simp; omega) _⟩
  by_cases h6 : x = 91
  · subst h6
    rw [seq2_br]
    go_enter Tryd.func51, Tryd.ntmps51
    go_wp2
    refine bodyPost_ret (v := .tuple #[.agg #[.int .i64 3, .string ⟨#[]⟩], .slice none 0 0]) ?_ rfl ?_
    · simp [results, Tryd.results51, go_sem]
    · exact ⟨_, rfl, ActsV.nil _, ((Below.refl _ _).alloc (Nat.le_refl _) _).alloc (by simp) _⟩
  have t4 : (x == 91) = false := by simp [h6]
  by_cases h7 : 48 ≤ x
  · by_cases h8 : x < 127
    · rw [seq2_esc h7 h8 h6]
      go_enter Tryd.func51, Tryd.ntmps51
      go_wp2
      refine bodyPost_ret (v := .tuple #[.agg #[.int .i64 0, .string ⟨#[]⟩], .slice (some ⟨w.heap.size + 1 + 1, 0, none⟩) 1 1]) ?_ rfl ?_
      · simp [results, Tryd.results51, go_sem]
      · exact ⟨_, rfl, lit_at (NumsV.nil _) (by simp), (((Below.refl _ _).alloc (Nat.le_refl _) _).alloc (by simp) _).alloc (by simp; omega) _⟩
    · rw [seq2_bad (by omega) (.inr (by omega))]
      go_enter Tryd.func51, Tryd.ntmps51
      go_wp2_with (first | (go_at_call 75; refine (invalid_any _).mono ?_; rintro e w2 ⟨rfl, hb2⟩; replace HA := hide (HA.out.below hb2); replace H3 := hide (H3.out.trans (hb2.mono (by first | omega | (simp; omega)))); clear hb2; obtain ⟨q0, q1, q2, q3, -⟩ := HA.out; have hzl : w.heap.size + 1 < w2.heap.size := HA.out.lt) | fail)
      obtain ⟨r0, r1, -⟩ := (HA.out.set (.int .i64 0) (.string ⟨#[]⟩)).below ((Below.refl _ _).alloc (Nat.le_refl _) (.cells #[.int .i64 5, .int .i32 0, .slice none 0 0, .int .u8 0] 72))
      refine bodyPost_ret (v := .tuple #[.agg #[.int .i64 0, .string ⟨#[]⟩], .slice (some ⟨w2.heap.size, 0, none⟩) 1 1]) ?_ rfl ?_
      · simp [results, Tryd.results51, go_sem, r0, r1]
      · exact ⟨_, rfl, lit_at (NumsV.nil _) (by simp), (((H3.out.setCell (p := ⟨w.heap.size + 1, 0, none⟩) (Nat.le_succ _) _).setCell (p := ⟨w.heap.size + 1, 1, none⟩) (Nat.le_succ _) _).alloc (by simp; omega) _)⟩
  · rw [seq2_bad (by omega) (.inl (by omega))]
    go_enter Tryd.func51, Tryd.ntmps51
    go_wp2_with (first | (go_at_call 75; refine (invalid_any _).mono ?_; rintro e w2 ⟨rfl, hb2⟩; replace HA := hide (HA.out.below hb2); replace H3 := hide (H3.out.trans (hb2.mono (by first | omega | (simp; omega)))); clear hb2; obtain ⟨q0, q1, q2, q3, -⟩ := HA.out; have hzl : w.heap.size + 1 < w2.heap.size := HA.out.lt) | fail)
    obtain ⟨r0, r1, -⟩ := (HA.out.set (.int .i64 0) (.string ⟨#[]⟩)).below ((Below.refl _ _).alloc (Nat.le_refl _) (.cells #[.int .i64 5, .int .i32 0, .slice none 0 0, .int .u8 0] 72))
    refine bodyPost_ret (v := .tuple #[.agg #[.int .i64 0, .string ⟨#[]⟩], .slice (some ⟨w2.heap.size, 0, none⟩) 1 1]) ?_ rfl ?_
    · simp [results, Tryd.results51, go_sem, r0, r1]
    · exact ⟨_, rfl, lit_at (NumsV.nil _) (by simp), (((H3.out.setCell (p := ⟨w.heap.size + 1, 0, none⟩) (Nat.le_succ _) _).setCell (p := ⟨w.heap.size + 1, 1, none⟩) (Nat.le_succ _) _).alloc (by simp; omega) _)⟩
set_option maxRecDepth 100000 in
set_option maxHeartbeats 2000000 in
theorem pseq3_any (t : ByteArray) (x : Int) (w : World) (ht : t.size ≤ 100000) (h0 : 0 ≤ x) (h1 : x ≤ 255) (HP : Hid (∀ W, Calls Tryd.prog 76 #[.string t] W (ParPost W (params t)))) :
    Calls Tryd.prog 51 #[.agg #[.int .i64 3, .string t], .int .u8 x] w (FeedPost w (stPv (inSeq 3 t x).1) (inSeq 3 t x).2) := by
  have c1 := conv_1d
  have ht1 : (t.size : Int) ≤ 100000 := by omega
  have o1 : ((strOfNums [x]).size : Int) ≤ 1 := by rw [one_size]; omega
  have HA := hide (StBox.new (w.alloc (.cells #[.int .i64 3, .string t] 54)) (.int .i64 0) (.string ⟨#[]⟩))
  have H3 := hide (((Below.refl w.heap.size w).alloc (Nat.le_refl _) (.cells #[.int .i64 3, .string t] 54)).alloc (by simp) (.cells #[.int .i64 0, .string ⟨#[]⟩] 54))
  rw [World.size_alloc] at HA
  by_cases h2 : x = 27
  · subst h2
    rw [seq_27]
    go_enter Tryd.func51, Tryd.ntmps51
    go_wp2_with (first | (go_at_call 75; refine (invalid_any _).mono ?_; rintro e w2 ⟨rfl, hb2⟩; replace HA := hide (HA.out.below hb2); replace H3 := hide (H3.out.trans (hb2.mono (by first | omega | (simp; omega)))); clear hb2; obtain ⟨q0, q1, q2, q3, -⟩ := HA.out; have hzl : w.heap.size + 1 < w2.heap.size := HA.out.lt) | fail)
    obtain ⟨r0, r1, -⟩ := (HA.out.set (.int .i64 2) (.string ⟨#[]⟩)).below ((Below.refl _ _).alloc (Nat.le_refl _) (.cells #[.int .i64 5, .int .i32 0, .slice none 0 0, .int .u8 0] 72))
    refine bodyPost_ret (v := .tuple #[.agg #[.int .i64 2, .string ⟨#[]⟩], .slice (some ⟨w2.heap.size, 0, none⟩) 1 1]) ?_ rfl ?_
    · simp [results, Tryd.results51, go_sem, r0, r1]
    · exact ⟨_, rfl, lit_at (NumsV.nil _) (by simp), (((H3.out.setCell (p := ⟨w.heap.size + 1, 0, none⟩) (Nat.le_succ _) _).setCell (p := ⟨w.heap.size + 1, 1, none⟩) (Nat.le_succ _) _).alloc (by simp; omega) _)⟩
  by_cases h3 : x = 24
  · subst h3
    rw [seq_24]
    go_enter Tryd.func51, Tryd.ntmps51
    go_wp2_with (first | (go_at_call 75; refine (invalid_any _).mono ?_; rintro e w2 ⟨rfl, hb2⟩; replace HA := hide (HA.out.below hb2); replace H3 := hide (H3.out.trans (hb2.mono (by first | omega | (simp; omega)))); clear hb2; obtain ⟨q0, q1, q2, q3, -⟩ := HA.out; have hzl : w.heap.size + 1 < w2.heap.size := HA.out.lt) | fail)
    obtain ⟨r0, r1, -⟩ := (HA.out.set (.int .i64 0) (.string ⟨#[]⟩)).below ((Below.refl _ _).alloc (Nat.le_refl _) (.cells #[.int .i64 5, .int .i32 0, .slice none 0 0, .int .u8 0] 72))
    refine bodyPost_ret (v := .tuple #[.agg #[.int .i64 0, .string ⟨#[]⟩], .slice (some ⟨w2.heap.size, 0, none⟩) 1 1]) ?_ rfl ?_
    · simp [results, Tryd.results51, go_sem, r0, r1]
    · exact ⟨_, rfl, lit_at (NumsV.nil _) (by simp), (((H3.out.setCell (p := ⟨w.heap.size + 1, 0, none⟩) (Nat.le_succ _) _).setCell (p := ⟨w.heap.size + 1, 1, none⟩) (Nat.le_succ _) _).alloc (by simp; omega) _)⟩
  by_cases h4 : x = 26
  · subst h4
    rw [seq_26]
    go_enter Tryd.func51, Tryd.ntmps51
    go_wp2_with (first | (go_at_call 75; refine (invalid_any _).mono ?_; rintro e w2 ⟨rfl, hb2⟩; replace HA := hide (HA.out.below hb2); replace H3 := hide (H3.out.trans (hb2.mono (by first | omega | (simp; omega)))); clear hb2; obtain ⟨q0, q1, q2, q3, -⟩ := HA.out; have hzl : w.heap.size + 1 < w2.heap.size := HA.out.lt) | fail)
    obtain ⟨r0, r1, -⟩ := (HA.out.set (.int .i64 0) (.string ⟨#[]⟩)).below ((Below.refl _ _).alloc (Nat.le_refl _) (.cells #[.int .i64 5, .int .i32 0, .slice none 0 0, .int .u8 0] 72))
    refine bodyPost_ret (v := .tuple #[.agg #[.int .i64 0, .string ⟨#[]⟩], .slice (some ⟨w2.heap.size, 0, none⟩) 1 1]) ?_ rfl ?_
    · simp [results, Tryd.results51, go_sem, r0, r1]
    · exact ⟨_, rfl, lit_at (NumsV.nil _) (by simp), (((H3.out.setCell (p := ⟨w.heap.size + 1, 0, none⟩) (Nat.le_succ _) _).setCell (p := ⟨w.heap.size + 1, 1, none⟩) (Nat.le_succ _) _).alloc (by simp; omega) _)⟩
  have t1 : (x == 27) = false := by simp [h2]
  have t2 : (x == 24) = false := by simp [h3]
  have t3 : (x == 26) = false := by simp [h4]
  by_cases h5 : x < 32
  · rw [seq_ctl h2 h3 h4 h5]
    go_enter Tryd.func51, Tryd.ntmps51
    go_wp2
    refine bodyPost_ret (v := .tuple #[.agg #[.int .i64 3, .string t], .slice (some ⟨w.heap.size + 1 + 1, 0, none⟩) 1 1]) ?_ rfl ?_
    · simp [results, Tryd.results51, go_sem]
    · exact ⟨_, rfl, lit_at (NumsV.nil _) (by simp), (((Below.refl _ _).alloc (Nat.le_refl _) _).alloc (by simp) _).alloc (by simp; omega) _⟩
  by_cases h6 : x < 64
  · rw [seq3_more (by omega) h6]
    go_enter Tryd.func51, Tryd.ntmps51
    go_wp2
    refine bodyPost_ret (v := .tuple #[.agg #[.int .i64 3, .string (t ++ strOfNums [x])], .slice none 0 0]) ?_ rfl ?_
    · simp [results, Tryd.results51, go_sem]
    · exact ⟨_, rfl, ActsV.nil _, (((Below.refl _ _).alloc (Nat.le_refl _) _).alloc (by simp) _).alloc (by simp; omega) _⟩
  by_cases h7 : x < 127
  · cases hp : params t with
    | none =>
      rw [seq3_no (by omega) h7 hp]
      have HPP := hide hp
      clear hp
      go_enter Tryd.func51, Tryd.ntmps51
      go_wp2_with (first | (go_at_call 76; refine (par_none (HP.out _) HPP.out).mono ?_; rintro e w1 ⟨pv, rfl, hb1⟩; clear HP; replace HA := hide (HA.out.below hb1); replace H3 := hide (H3.out.trans (hb1.mono (by simp; omega))); have hzp := HA.out.lt; clear hb1) | (go_at_call 75; refine (invalid_any _).mono ?_; rintro e w2 ⟨rfl, hb2⟩; replace HA := hide (HA.out.below hb2); replace H3 := hide (H3.out.trans (hb2.mono (by first | omega | (simp; omega)))); clear hb2; obtain ⟨q0, q1, q2, q3, -⟩ := HA.out; have hzl : w.heap.size + 1 < w2.heap.size := HA.out.lt) | fail)
      obtain ⟨r0, r1, -⟩ := (HA.out.set (.int .i64 0) (.string ⟨#[]⟩)).below ((Below.refl _ _).alloc (Nat.le_refl _) (.cells #[.int .i64 5, .int .i32 0, .slice none 0 0, .int .u8 0] 72))
      refine bodyPost_ret (v := .tuple #[.agg #[.int .i64 0, .string ⟨#[]⟩], .slice (some ⟨w2.heap.size, 0, none⟩) 1 1]) ?_ rfl ?_
      · simp [results, Tryd.results51, go_sem, r0, r1]
      · exact ⟨_, rfl, lit_at (NumsV.nil _) (by simp), (((H3.out.setCell (p := ⟨w.heap.size + 1, 0, none⟩) (Nat.le_succ _) _).setCell (p := ⟨w.heap.size + 1, 1, none⟩) (Nat.le_succ _) _).alloc (by simp; omega) _)⟩
    | some l =>
      rw [seq3_ok (by omega) h7 hp]
      have HPP := hide hp
      clear hp
      go_enter Tryd.func51, Tryd.ntmps51
      go_wp2_with (first | (go_at_call 76; refine (par_some (HP.out _) HPP.out).mono ?_; rintro e w1 ⟨pv, rfl, hnum, hb1⟩; clear HP; replace HA := hide (HA.out.below hb1); replace H3 := hide (H3.out.trans (hb1.mono (by simp; omega))); have hzp := HA.out.lt; obtain ⟨A9, c9, rfl, hcs⟩ := hnum; have HNU : Hid (NumsV w1 (.slice A9 l.length c9) l) := hide ⟨A9, c9, rfl, hcs⟩; clear hb1 hcs; obtain ⟨q0, q1, q2, q3, -⟩ := HA.out; have hzl : w.heap.size + 1 < w1.heap.size := HA.out.lt) | fail)
      have hna := TyA.setCell HA.out.2.2.2.2 ⟨w.heap.size + 1, 0, none⟩ (.int .i64 0)
      have hn2 : NumsV ((w1.setCell ⟨w.heap.size + 1, 0, none⟩ (.int .i64 0)).setCell ⟨w.heap.size + 1, 1, none⟩ (.string ⟨#[]⟩)) (.slice A9 l.length c9) l := nums_far (nums_far HNU.out HA.out.2.2.2.2 (by decide) _ rfl) hna (by decide) _ rfl
      have HN2 := hide hn2
      clear hna hn2
      obtain ⟨r0, r1, -⟩ := (HA.out.set (.int .i64 0) (.string ⟨#[]⟩)).below ((Below.refl _ _).alloc (Nat.le_refl _) (.cells #[.int .i64 3, .int .i32 0, .slice A9 l.length c9, .int .u8 x] 72))
      refine bodyPost_ret (v := .tuple #[.agg #[.int .i64 0, .string ⟨#[]⟩], .slice (some ⟨w1.heap.size, 0, none⟩) 1 1]) ?_ rfl ?_
      · simp [results, Tryd.results51, go_sem, r0, r1]
      · exact ⟨_, rfl, lit_at HN2.out (by simp), (((H3.out.setCell (p := ⟨w.heap.size + 1, 0, none⟩) (Nat.le_succ _) _).setCell (p := ⟨w.heap.size + 1, 1, none⟩) (Nat.le_succ _) _).alloc (by simp; omega) _)⟩
  · rw [seq3_high (by omega)]
    go_enter Tryd.func51, Tryd.ntmps51
    go_wp2_with (first | (go_at_call 75; refine (invalid_any _).mono ?_; rintro e w2 ⟨rfl, hb2⟩; replace HA := hide (HA.out.below hb2); replace H3 := hide (H3.out.trans (hb2.mono (by first | omega | (simp; omega)))); clear hb2; obtain ⟨q0, q1, q2, q3, -⟩ := HA.out; have hzl : w.heap.size + 1 < w2.heap.size := HA.out.lt) | fail)
    obtain ⟨r0, r1, -⟩ := (HA.out.set (.int .i64 0) (.string ⟨#[]⟩)).below ((Below.refl _ _).alloc (Nat.le_refl _) (.cells #[.int .i64 5, .int .i32 0, .slice none 0 0, .int .u8 0] 72))
    refine bodyPost_ret (v := .tuple #[.agg #[.int .i64 0, .string ⟨#[]⟩], .slice (some ⟨w2.heap.size, 0, none⟩) 1 1]) ?_ rfl ?_
    · simp [results, Tryd.results51, go_sem, r0, r1]
    · exact ⟨_, rfl, lit_at (NumsV.nil _) (by simp), (((H3.out.setCell (p := ⟨w.heap.size + 1, 0, none⟩) (Nat.le_succ _) _).setCell (p := ⟨w.heap.size + 1, 1, none⟩) (Nat.le_succ _) _).alloc (by simp; omega) _)⟩
end Go.Proofs.YtmemdhmjhckmaaaDoor
namespace Go.Proofs.YtmemdhmjhckmaaaDoor
open Go.RowKit Go.Shelf
set_option maxRecDepth 100000

/-- The number of a part; none if a byte is no digit. -/
def numB : List UInt8 → Int → Option Int
  | [], n => some n
  | c :: r, n => if 48 ≤ c.toNat ∧ c.toNat ≤ 57 then numB r (min (10 * n + ((c.toNat : Int) - 48)) 9999) else none
theorem pgo_part {p : List UInt8} (hp : ∀ c ∈ p, c.toNat ≠ 59) (r : List UInt8) (d : List Int) (n : Int) {c : UInt8} (hc : c.toNat = 59) : pgo (p ++ c :: r) d n = (numB p n).bind fun m => pgo r (d ++ [m]) 0 := by
  induction p generalizing n with
  | nil => rw [List.nil_append, pgo_semi hc]; rfl
  | cons a l ih =>
    have ha := hp a (by simp)
    by_cases h : 48 ≤ a.toNat ∧ a.toNat ≤ 57
    · rw [List.cons_append, pgo_digit h.1 h.2, ih (fun c hc => hp c (by simp [hc]))]
      simp only [numB]
      rw [if_pos h]
    · rw [List.cons_append, pgo_bad ha (by omega)]
      simp only [numB]
      rw [if_neg h]; rfl
theorem pgo_last {p : List UInt8} (hp : ∀ c ∈ p, c.toNat ≠ 59) (d : List Int) (n : Int) : pgo p d n = (numB p n).bind fun m => some (d ++ [m]) := by
  induction p generalizing n with
  | nil => rfl
  | cons a l ih =>
    have ha := hp a (by simp)
    by_cases h : 48 ≤ a.toNat ∧ a.toNat ≤ 57
    · rw [pgo_digit h.1 h.2, ih (fun c hc => hp c (by simp [hc]))]
      simp only [numB]
      rw [if_pos h]
    · rw [pgo_bad ha (by omega)]
      simp only [numB]
      rw [if_neg h]; rfl
theorem byte_59 {c : UInt8} (h : c.toNat = 59) : c = 59 := UInt8.toNat_inj.1 (by rw [h]; rfl)
theorem pgo_none {s : ByteArray} (h : Lib.indexByte s.data.toList 59 = -1) (d : List Int) : pgo s.data.toList d 0 = (numB s.data.toList 0).bind fun m => some (d ++ [m]) := by
  refine pgo_last (fun c hc e => ?_) d 0
  obtain ⟨i, hi, e2⟩ := List.getElem_of_mem hc
  have := Lib.indexByte_none h i
  rw [List.getElem?_eq_getElem hi, e2, byte_59 e] at this
  exact this rfl
theorem pgo_some {s : ByteArray} {o : Nat} (h : Lib.indexByte s.data.toList 59 = o) (d : List Int) : o < s.size ∧ pgo s.data.toList d 0 = (numB (s.extract 0 o).data.toList 0).bind fun m => pgo (s.extract (o + 1) s.size).data.toList (d ++ [m]) 0 := by
  obtain ⟨h1, h2⟩ := Lib.indexByte_some h
  have hlt := (List.getElem?_eq_some_iff.1 h1).1
  have hlt2 : o < s.size := by rw [Array.length_toList] at hlt; exact hlt
  refine ⟨hlt2, ?_⟩
  have e1 : (s.extract 0 o).data.toList = s.data.toList.take o := by rw [ByteArray.data_extract]; simp
  have e2 : (s.extract (o + 1) s.size).data.toList = s.data.toList.drop (o + 1) := by
    rw [ByteArray.data_extract]
    simp only [Array.toList_extract, List.extract_eq_take_drop]
    rw [List.take_of_length_le]
    rw [List.length_drop, Array.length_toList]
    exact Nat.le_refl _
  have e3 : s.data.toList = s.data.toList.take o ++ s.data.toList[o] :: s.data.toList.drop (o + 1) := by rw [← List.drop_eq_getElem_cons hlt, List.take_append_drop]
  have hv : s.data.toList[o] = 59 := by rw [List.getElem?_eq_getElem hlt] at h1; exact Option.some.inj h1
  rw [e1, e2]
  conv => lhs; rw [e3]
  refine pgo_part (fun c hc e => ?_) _ _ _ (by rw [hv]; rfl)
  obtain ⟨i, hi, e9⟩ := List.getElem_of_mem hc
  rw [List.length_take] at hi
  have := h2 i (by omega)
  rw [List.getElem_take] at e9
  rw [List.getElem?_eq_getElem (by omega), e9, byte_59 e] at this
  exact this rfl
theorem numB_bound {l : List UInt8} : ∀ {n m : Int}, 0 ≤ n → n ≤ 9999 → numB l n = some m → 0 ≤ m ∧ m ≤ 9999 := by
  induction l with
  | nil => intro n m h0 h1 h; simp only [numB, Option.some.injEq] at h; omega
  | cons a l ih =>
    intro n m h0 h1 h
    simp only [numB] at h
    split at h
    · exact ih (by omega) (by omega) h
    · cases h
theorem dec_digit (s : ByteArray) (pos : Nat) (h : pos < s.size) : (48 ≤ s[pos].toNat ∧ s[pos].toNat ≤ 57 → (Utf8.decode s pos).1 = s[pos].toNat ∧ (Utf8.decode s pos).2 = 1) ∧ (¬ (48 ≤ s[pos].toNat ∧ s[pos].toNat ≤ 57) → (Utf8.decode s pos).1 < 48 ∨ 57 < (Utf8.decode s pos).1) := by
  by_cases ha : s[pos].toNat < 128
  · have e : Utf8.decode s pos = (s[pos].toNat, 1) := by simp only [Utf8.decode, get_at s pos h, ha, if_true]
    rw [e]
    exact ⟨fun _ => ⟨rfl, rfl⟩, fun hn => by dsimp only; omega⟩
  · have := decode_high s pos h (by omega)
    exact ⟨fun hn => by omega, fun _ => .inr (by omega)⟩
theorem numB_digit {s : ByteArray} {pos : Nat} {n : Int} (h : pos < s.size) (h1 : 48 ≤ s[pos].toNat) (h2 : s[pos].toNat ≤ 57) : numB (s.data.toList.drop pos) n = numB (s.data.toList.drop (pos + 1)) (min (10 * n + ((s[pos].toNat : Int) - 48)) 9999) := by
  rw [drop_byte h]; simp only [numB]; rw [if_pos ⟨h1, h2⟩]
theorem numB_bad {s : ByteArray} {pos : Nat} {n : Int} (h : pos < s.size) (h1 : ¬ (48 ≤ s[pos].toNat ∧ s[pos].toNat ≤ 57)) : numB (s.data.toList.drop pos) n = none := by
  rw [drop_byte h]; simp only [numB]; rw [if_neg h1]
theorem numB_end {s : ByteArray} {pos : Nat} {n : Int} (h : s.size ≤ pos) : numB (s.data.toList.drop pos) n = some n := by
  rw [List.drop_of_length_le (by rw [Array.length_toList]; exact h)]; rfl

/-- Between two rounds. -/
def PrI (w0 : World) (B : Nat) (o : Obj) (v : Value) (L : List Int) (r : ByteArray) (W : World) : Prop :=
  W.heap[B + 1 + 1 + 1 + 1 + 1 + 1 + 1]? = some o ∧ W.heap[B + 1 + 1 + 1 + 1 + 1 + 1]? = some (.deferred (some [])) ∧ Boxed W B 44 (.slice none 0 0) ∧ Boxed W (B + 1) 4 (.bool false) ∧ Boxed W (B + 1 + 1) 44 v ∧ Boxed W (B + 1 + 1 + 1) 9 (.string r) ∧ Boxed W (B + 1 + 1 + 1 + 1) 9 (.string ⟨#[59]⟩) ∧ Boxed W (B + 1 + 1 + 1 + 1 + 1) 3 (.int .i64 0) ∧ W.ownsRow (B + 1 + 1 + 1 + 1 + 1 + 1 + 1 + 1) 3 1 v L.length (ints L) ∧ Below B w0 W
theorem PrI.below {w0 W W' : World} {B : Nat} {o : Obj} {v : Value} {L : List Int} {r : ByteArray} (h : PrI w0 B o v L r W) (hb : Below W.heap.size W W') : PrI w0 B o v L r W' := by
  obtain ⟨h1, h2, h3, h4, h5, h6, h7, h8, h9, h10⟩ := h
  have K : ∀ {k : Nat} {x : Obj}, W.heap[k]? = some x → W'.heap[k]? = some x := fun hk => (hb.block _ (Array.getElem?_eq_some_iff.1 hk).1).trans hk
  exact ⟨K h1, K h2, K h3, K h4, K h5, K h6, K h7, K h8, own_belowA h9 hb, h10.trans (hb.mono (by have := (Array.getElem?_eq_some_iff.1 h1).1; omega))⟩
theorem PrI.put {w0 W : World} {B : Nat} {o : Obj} {v : Value} {L : List Int} {r : ByteArray} (h : PrI w0 B o v L r W) (ho : o.isCells = false) (o' : Obj) : PrI w0 B o' v L r (W.putObj (B + 1 + 1 + 1 + 1 + 1 + 1 + 1) o') := by
  obtain ⟨h1, h2, h3, h4, h5, h6, h7, h8, h9, h10⟩ := h
  have hlt := (Array.getElem?_eq_some_iff.1 h1).1
  refine ⟨World.putObj_heap_same hlt, (World.putObj_heap_other (by omega)).trans h2, putObj_box h3 h1 ho, putObj_box h4 h1 ho, putObj_box h5 h1 ho, putObj_box h6 h1 ho, putObj_box h7 h1 ho, putObj_box h8 h1 ho, ⟨h9.1, ?_⟩, h10.grown (grownBy_putObj' W _ o') (by omega) (fun k e => by cases e; omega)⟩
  rcases h9.2 with h0 | ⟨g, cap, cur, rfl, hg, hh, q⟩
  · exact .inl h0
  · exact .inr ⟨g, cap, cur, rfl, hg, (World.putObj_heap_other (by omega)).trans hh, q⟩
theorem own_boxA {W : World} {B : Nat} {e : TypeId} {k : Nat} {v : Value} {n : Nat} {xs : List Value} (h : W.ownsRow B e k v n xs) {b : Nat} (hb : b < B) (u : Value) : (W.setCell ⟨b, 0, none⟩ u).ownsRow B e k v n xs := by
  refine ⟨h.1, ?_⟩
  rcases h.2 with h0 | ⟨g, cap, cur, rfl, hg, hh, q⟩
  · exact .inl h0
  · exact .inr ⟨g, cap, cur, rfl, hg, (Below.heap_setCell _ _ _ _ (by simp; omega)).trans hh, q⟩
theorem PrI.setR {w0 W : World} {B : Nat} {o : Obj} {v : Value} {L : List Int} {r : ByteArray} (h : PrI w0 B o v L r W) (x : ByteArray) : PrI w0 B o v L x (W.setCell ⟨B + 1 + 1 + 1, 0, none⟩ (.string x)) := by
  obtain ⟨h1, h2, h3, h4, h5, h6, h7, h8, h9, h10⟩ := h
  exact ⟨(Below.heap_setCell _ _ _ _ (by simp; try omega)).trans h1, (Below.heap_setCell _ _ _ _ (by simp; try omega)).trans h2, h3.other (by omega) _, h4.other (by omega) _, h5.other (by omega) _, h6.set _, h7.other (by omega) _, h8.other (by omega) _, own_boxA h9 (by omega) _, h10.setCell (p := ⟨B + 1 + 1 + 1, 0, none⟩) (by simp; try omega) _⟩
theorem PrI.setRes {w0 W : World} {B : Nat} {o : Obj} {v : Value} {L : List Int} {r : ByteArray} (h : PrI w0 B o v L r W) : PrI w0 B o v L r ((W.setCell ⟨B, 0, none⟩ (.slice none 0 0)).setCell ⟨B + 1, 0, none⟩ (.bool false)) := by
  obtain ⟨h1, h2, h3, h4, h5, h6, h7, h8, h9, h10⟩ := h
  have S : ∀ {k : Nat} {x : Obj}, k ≠ B → k ≠ B + 1 → W.heap[k]? = some x → ((W.setCell ⟨B, 0, none⟩ (.slice none 0 0)).setCell ⟨B + 1, 0, none⟩ (.bool false)).heap[k]? = some x := fun hk hk1 h => (Below.heap_setCell _ _ _ _ hk1).trans ((Below.heap_setCell _ _ _ _ hk).trans h)
  exact ⟨S (by omega) (by omega) h1, S (by omega) (by omega) h2, (h3.set _).other (by omega) _, (h4.other (by omega) _).set _, S (by omega) (by omega) h5, S (by omega) (by omega) h6, S (by omega) (by omega) h7, S (by omega) (by omega) h8, own_boxA (own_boxA h9 (by omega) _) (by omega) _, (h10.setCell (p := ⟨B, 0, none⟩) (Nat.le_refl _) _).setCell (p := ⟨B + 1, 0, none⟩) (by simp) _⟩
theorem PrI.appB {w0 W W1 : World} {B : Nat} {o ob : Obj} {v : Value} {L : List Int} {r : ByteArray} (h : PrI w0 B o v L r W) (hg : (W.alloc ob).grownBy W1 v.ownBlock) : Boxed W1 (B + 1 + 1) 44 v := by
  obtain ⟨h1, h2, h3, h4, h5, h6, h7, h8, h9, h10⟩ := h
  have hb : Below (B + 1 + 1 + 1 + 1 + 1 + 1 + 1 + 1) W W1 := ((Below.refl _ W).alloc (by have := (Array.getElem?_eq_some_iff.1 h1).1; omega) ob).grown hg (by have := (Array.getElem?_eq_some_iff.1 h1).1; simp; omega) (fun k e => (h9.lt k e).1)
  exact (hb.block _ (by omega)).trans h5
/-- A number appended, and stored. -/
theorem PrI.app {w0 W W1 : World} {B : Nat} {o ob : Obj} {v v1 : Value} {L : List Int} {m : Int} {r : ByteArray} (h : PrI w0 B o v L r W) (hg : (W.alloc ob).grownBy W1 v.ownBlock)
    (hown : W1.ownsRow (B + 1 + 1 + 1 + 1 + 1 + 1 + 1 + 1) 3 1 v1 (L.length + 1) (ints L ++ [.int .i64 m])) : PrI w0 B o v1 (L ++ [m]) r (W1.setCell ⟨B + 1 + 1, 0, none⟩ v1) := by
  obtain ⟨h1, h2, h3, h4, h5, h6, h7, h8, h9, h10⟩ := h
  have hb : Below (B + 1 + 1 + 1 + 1 + 1 + 1 + 1 + 1) W W1 := ((Below.refl _ W).alloc (by have := (Array.getElem?_eq_some_iff.1 h1).1; omega) ob).grown hg (by have := (Array.getElem?_eq_some_iff.1 h1).1; simp; omega) (fun k e => (h9.lt k e).1)
  have K : ∀ {k : Nat} {x : Obj}, k < B + 1 + 1 + 1 + 1 + 1 + 1 + 1 + 1 → W.heap[k]? = some x → W1.heap[k]? = some x := fun hk h => (hb.block _ hk).trans h
  have S : ∀ {k : Nat} {x : Obj}, k ≠ B + 1 + 1 → W1.heap[k]? = some x → (W1.setCell ⟨B + 1 + 1, 0, none⟩ v1).heap[k]? = some x := fun hk h => (Below.heap_setCell _ _ _ _ hk).trans h
  refine ⟨S (by omega) (K (by omega) h1), S (by omega) (K (by omega) h2), S (by omega) (K (by omega) h3), S (by omega) (K (by omega) h4), Boxed.set v1 (v := v) (K (by omega) h5), S (by omega) (K (by omega) h6), S (by omega) (K (by omega) h7), S (by omega) (K (by omega) h8), ?_, (h10.trans (hb.mono (by omega))).setCell (p := ⟨B + 1 + 1, 0, none⟩) (by simp; try omega) _⟩
  have := own_boxA hown (b := B + 1 + 1) (by omega) v1
  rw [ints_app, List.length_append]
  exact this
theorem PrI.start (w : World) (s : ByteArray) (o : Obj) : PrI w w.heap.size o (.slice none 0 0) [] s ((((((((w.alloc (.cells #[.slice none 0 0] 44)).alloc (.cells #[.bool false] 4)).alloc (.cells #[.slice none 0 0] 44)).alloc (.cells #[.string s] 9)).alloc (.cells #[.string ⟨#[59]⟩] 9)).alloc (.cells #[.int .i64 0] 3)).alloc (.deferred (some []))).alloc o) := by
  obtain ⟨w1, h1⟩ : ∃ w1, w.alloc (.cells #[.slice none 0 0] 44) = w1 := ⟨_, rfl⟩
  obtain ⟨w2, h2⟩ : ∃ w2, w1.alloc (.cells #[.bool false] 4) = w2 := ⟨_, rfl⟩
  obtain ⟨w3, h3⟩ : ∃ w3, w2.alloc (.cells #[.slice none 0 0] 44) = w3 := ⟨_, rfl⟩
  obtain ⟨w4, h4⟩ : ∃ w4, w3.alloc (.cells #[.string s] 9) = w4 := ⟨_, rfl⟩
  obtain ⟨w5, h5⟩ : ∃ w5, w4.alloc (.cells #[.string ⟨#[59]⟩] 9) = w5 := ⟨_, rfl⟩
  obtain ⟨w6, h6⟩ : ∃ w6, w5.alloc (.cells #[.int .i64 0] 3) = w6 := ⟨_, rfl⟩
  obtain ⟨w7, h7⟩ : ∃ w7, w6.alloc (.deferred (some [])) = w7 := ⟨_, rfl⟩
  obtain ⟨w8, h8⟩ : ∃ w8, w7.alloc o = w8 := ⟨_, rfl⟩
  rw [h1, h2, h3, h4, h5, h6, h7, h8]
  have s1 : w1.heap.size = w.heap.size + 1 := by rw [← h1]; simp
  have s2 : w2.heap.size = w.heap.size + 1 + 1 := by rw [← h2, World.size_alloc, s1]
  have s3 : w3.heap.size = w.heap.size + 1 + 1 + 1 := by rw [← h3, World.size_alloc, s2]
  have s4 : w4.heap.size = w.heap.size + 1 + 1 + 1 + 1 := by rw [← h4, World.size_alloc, s3]
  have s5 : w5.heap.size = w.heap.size + 1 + 1 + 1 + 1 + 1 := by rw [← h5, World.size_alloc, s4]
  have s6 : w6.heap.size = w.heap.size + 1 + 1 + 1 + 1 + 1 + 1 := by rw [← h6, World.size_alloc, s5]
  have s7 : w7.heap.size = w.heap.size + 1 + 1 + 1 + 1 + 1 + 1 + 1 := by rw [← h7, World.size_alloc, s6]
  have K : ∀ {W W' : World} {ob : Obj} (_ : W.alloc ob = W') {k : Nat} {x : Obj}, W.heap[k]? = some x → W'.heap[k]? = some x := by
    intro W W' ob e k x hk
    subst e
    exact (Below.heap_alloc _ _ _ (Array.getElem?_eq_some_iff.1 hk).1).trans hk
  have a1 : w1.heap[w.heap.size]? = some (.cells #[.slice none 0 0] 44 (0, 0)) := by rw [← h1]; exact World.alloc_heap_new _ _
  have a2 : w2.heap[w.heap.size + 1]? = some (.cells #[.bool false] 4 (0, 0)) := by rw [← h2, ← s1]; exact World.alloc_heap_new _ _
  have a3 : w3.heap[w.heap.size + 1 + 1]? = some (.cells #[.slice none 0 0] 44 (0, 0)) := by rw [← h3, ← s2]; exact World.alloc_heap_new _ _
  have a4 : w4.heap[w.heap.size + 1 + 1 + 1]? = some (.cells #[.string s] 9 (0, 0)) := by rw [← h4, ← s3]; exact World.alloc_heap_new _ _
  have a5 : w5.heap[w.heap.size + 1 + 1 + 1 + 1]? = some (.cells #[.string ⟨#[59]⟩] 9 (0, 0)) := by rw [← h5, ← s4]; exact World.alloc_heap_new _ _
  have a6 : w6.heap[w.heap.size + 1 + 1 + 1 + 1 + 1]? = some (.cells #[.int .i64 0] 3 (0, 0)) := by rw [← h6, ← s5]; exact World.alloc_heap_new _ _
  have a7 : w7.heap[w.heap.size + 1 + 1 + 1 + 1 + 1 + 1]? = some (.deferred (some [])) := by rw [← h7, ← s6]; exact World.alloc_heap_new _ _
  have a8 : w8.heap[w.heap.size + 1 + 1 + 1 + 1 + 1 + 1 + 1]? = some o := by rw [← h8, ← s7]; exact World.alloc_heap_new _ _
  refine ⟨a8, K h8 a7, K h8 (K h7 (K h6 (K h5 (K h4 (K h3 (K h2 a1)))))), K h8 (K h7 (K h6 (K h5 (K h4 (K h3 a2))))), K h8 (K h7 (K h6 (K h5 (K h4 a3)))), K h8 (K h7 (K h6 (K h5 a4))), K h8 (K h7 (K h6 a5)), K h8 (K h7 a6), World.ownsRow_nil _ _ _ _, ?_⟩
  rw [← h8, ← h7, ← h6, ← h5, ← h4, ← h3, ← h2, ← h1]
  exact ((((((((Below.refl _ _).alloc (Nat.le_refl _) _).alloc (by simp) _).alloc (by simp; omega) _).alloc (by simp; omega) _).alloc (by simp; omega) _).alloc (by simp; omega) _).alloc (by simp; omega) _).alloc (by simp; omega) _
theorem own_putA {W : World} {B : Nat} {e : TypeId} {k : Nat} {v : Value} {n : Nat} {xs : List Value} (h : W.ownsRow B e k v n xs) {b : Nat} (hb : b < B) (o : Obj) : (W.putObj b o).ownsRow B e k v n xs := by
  refine ⟨h.1, ?_⟩
  rcases h.2 with h0 | ⟨g, cap, cur, rfl, hg, hh, q⟩
  · exact .inl h0
  · exact .inr ⟨g, cap, cur, rfl, hg, (World.putObj_heap_other (by omega)).trans hh, q⟩
/-- Where the function ends. -/
def FinI (w0 : World) (B : Nat) (u : Value) (b : Bool) (v : Value) (L : List Int) (W : World) : Prop :=
  W.heap[B + 1 + 1 + 1 + 1 + 1 + 1]? = some (.deferred (some [])) ∧ Boxed W B 44 u ∧ Boxed W (B + 1) 4 (.bool b) ∧ W.ownsRow (B + 1 + 1 + 1 + 1 + 1 + 1 + 1 + 1) 3 1 v L.length (ints L) ∧ Below B w0 W
theorem PrI.fin0 {w0 W : World} {B : Nat} {o : Obj} {v : Value} {L : List Int} {r : ByteArray} (h : PrI w0 B o v L r W) : FinI w0 B (.slice none 0 0) false v L W :=
  ⟨h.2.1, h.2.2.1, h.2.2.2.1, h.2.2.2.2.2.2.2.2.1, h.2.2.2.2.2.2.2.2.2⟩
theorem PrI.fin {w0 W : World} {B : Nat} {o : Obj} {v : Value} {L : List Int} {r : ByteArray} (h : PrI w0 B o v L r W) (u : Value) (b : Bool) : FinI w0 B u b v L ((W.setCell ⟨B, 0, none⟩ u).setCell ⟨B + 1, 0, none⟩ (.bool b)) := by
  obtain ⟨h1, h2, h3, h4, h5, h6, h7, h8, h9, h10⟩ := h
  have S : ∀ {k : Nat} {x : Obj}, k ≠ B → k ≠ B + 1 → W.heap[k]? = some x → ((W.setCell ⟨B, 0, none⟩ u).setCell ⟨B + 1, 0, none⟩ (.bool b)).heap[k]? = some x := fun hk hk1 h => (Below.heap_setCell _ _ _ _ hk1).trans ((Below.heap_setCell _ _ _ _ hk).trans h)
  exact ⟨S (by omega) (by omega) h2, (h3.set _).other (by omega) _, (h4.other (by omega) _).set _, own_boxA (own_boxA h9 (by omega) _) (by omega) _, (h10.setCell (p := ⟨B, 0, none⟩) (Nat.le_refl _) _).setCell (p := ⟨B + 1, 0, none⟩) (by simp) _⟩
theorem FinI.out {w0 W : World} {u : Value} {b : Bool} {v : Value} {L : List Int} (h : FinI w0 w0.heap.size u b v L W) :
    (W.putObj (w0.heap.size + 1 + 1 + 1 + 1 + 1 + 1) (.deferred none)).cell? ⟨w0.heap.size, 0, none⟩ = some u ∧ (W.putObj (w0.heap.size + 1 + 1 + 1 + 1 + 1 + 1) (.deferred none)).cell? ⟨w0.heap.size + 1, 0, none⟩ = some (.bool b) ∧ NumsV (W.putObj (w0.heap.size + 1 + 1 + 1 + 1 + 1 + 1) (.deferred none)) v L ∧ Below w0.heap.size w0 (W.putObj (w0.heap.size + 1 + 1 + 1 + 1 + 1 + 1) (.deferred none)) := by
  obtain ⟨h1, h2, h3, h4, h5⟩ := h
  exact ⟨(putObj_box h2 h1 rfl).cell, (putObj_box h3 h1 rfl).cell, nums_of_own (own_putA h4 (by omega) _), h5.trans (belowK_b (w := w0) (Nat.le_refl _) W _ _ _ (by omega) h1 rfl rfl)⟩
/-- How long what is left is. -/
def restP (B : Nat) (W : World) : Nat := match W.cell? ⟨B + 1 + 1 + 1, 0, none⟩ with | some (.string r) => r.size | _ => 0
theorem PrI.rest {w0 W : World} {B : Nat} {o : Obj} {v : Value} {L : List Int} {r : ByteArray} (h : PrI w0 B o v L r W) : restP B W = r.size := by
  unfold restP; rw [h.2.2.2.2.2.1.cell]
end Go.Proofs.YtmemdhmjhckmaaaDoor
