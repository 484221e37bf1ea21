/- Contract of parser.sequence: a byte behind an escape, or a sequence. -/
import Derived.Test.YtmheleifjpfciaaDoorArfeed
namespace Go.Proofs.YtmheleifjpfciaaDoor
open Go.RowKit

theorem conv_1d (w : World) (A C : Obj) (a : Int) : (convert 46 9 (.slice (some ⟨w.heap.size + 1 + 1, 0, none⟩) 1 1)).run Tryd.prog (((w.alloc A).alloc C).alloc (.cells #[.int .u8 a] 5)) = .ok (.string (strOfNums [a])) (((w.alloc A).alloc C).alloc (.cells #[.int .u8 a] 5)) :=
  conv_at a _ rfl (by simp)
theorem nums_far {W : World} {v : Value} {l : List Int} (h : NumsV W v l) {b : Nat} {T : TypeId} (hp : TyA W b T) (h1 : T ≠ 3) {p : Addr} (u : Value) (hpb : p.block = b) : NumsV (W.setCell p u) v l := by
  subst hpb
  refine grown_nums h (grown_setA W p u) ?_
  rintro k e ⟨cs, f, hk⟩
  injection e with e
  subst e
  obtain ⟨c, fz, hh⟩ := hp
  rw [hh] at hk
  injection hk with hk
  injection hk with _ hk _
  exact h1 hk
set_option maxRecDepth 100000 in
set_option maxHeartbeats 2000000 in
theorem pseq2_any (t : ByteArray) (x : Int) (w : World) (ht : t.size ≤ 100000) (h0 : 0 ≤ x) (h1 : x ≤ 255) :
    Calls Tryd.prog 17 #[.agg #[.int .i64 2, .string t], .int .u8 x] w (FeedPost w (stV (inSeq 2 t x).1) (inSeq 2 t x).2) := by
  have c1 := conv_1d
  have ht1 : (t.size : Int) ≤ 100000 := by omega
  have o1 : ((strOfNums [x]).size : Int) ≤ 1 := by rw [one_size]; omega
  have HA := hide (StBox.new (w.alloc (.cells #[.int .i64 2, .string t] 24)) (.int .i64 0) (.string ⟨#[]⟩))
  have H3 := hide (((Below.refl w.heap.size w).alloc (Nat.le_refl _) (.cells #[.int .i64 2, .string t] 24)).alloc (by simp) (.cells #[.int .i64 0, .string ⟨#[]⟩] 24))
  rw [World.size_alloc] at HA
  by_cases h2 : x = 27
  · subst h2
    rw [seq_27]
    go_enter Tryd.func17, Tryd.ntmps17
    go_wp2_with (first | (go_at_call 28; refine (invalid_any _).mono ?_; rintro e w2 ⟨rfl, hb2⟩; replace HA := hide (HA.out.below hb2); replace H3 := hide (H3.out.trans (hb2.mono (by first | omega | (simp; omega)))); clear hb2; obtain ⟨q0, q1, q2, q3, -⟩ := HA.out; have hzl : w.heap.size + 1 < w2.heap.size := HA.out.lt) | fail)
    obtain ⟨r0, r1, -⟩ := (HA.out.set (.int .i64 2) (.string ⟨#[]⟩)).below ((Below.refl _ _).alloc (Nat.le_refl _) (.cells #[.int .i64 5, .int .i32 0, .slice none 0 0, .int .u8 0] 34))
    refine bodyPost_ret (v := .tuple #[.agg #[.int .i64 2, .string ⟨#[]⟩], .slice (some ⟨w2.heap.size, 0, none⟩) 1 1]) ?_ rfl ?_
    · simp [results, Tryd.results17, go_sem, r0, r1]
    · exact ⟨_, rfl, lit_at (NumsV.nil _) (by simp), (((H3.out.setCell (p := ⟨w.heap.size + 1, 0, none⟩) (Nat.le_succ _) _).setCell (p := ⟨w.heap.size + 1, 1, none⟩) (Nat.le_succ _) _).alloc (by simp; omega) _)⟩
  by_cases h3 : x = 24
  · subst h3
    rw [seq_24]
    go_enter Tryd.func17, Tryd.ntmps17
    go_wp2_with (first | (go_at_call 28; refine (invalid_any _).mono ?_; rintro e w2 ⟨rfl, hb2⟩; replace HA := hide (HA.out.below hb2); replace H3 := hide (H3.out.trans (hb2.mono (by first | omega | (simp; omega)))); clear hb2; obtain ⟨q0, q1, q2, q3, -⟩ := HA.out; have hzl : w.heap.size + 1 < w2.heap.size := HA.out.lt) | fail)
    obtain ⟨r0, r1, -⟩ := (HA.out.set (.int .i64 0) (.string ⟨#[]⟩)).below ((Below.refl _ _).alloc (Nat.le_refl _) (.cells #[.int .i64 5, .int .i32 0, .slice none 0 0, .int .u8 0] 34))
    refine bodyPost_ret (v := .tuple #[.agg #[.int .i64 0, .string ⟨#[]⟩], .slice (some ⟨w2.heap.size, 0, none⟩) 1 1]) ?_ rfl ?_
    · simp [results, Tryd.results17, go_sem, r0, r1]
    · exact ⟨_, rfl, lit_at (NumsV.nil _) (by simp), (((H3.out.setCell (p := ⟨w.heap.size + 1, 0, none⟩) (Nat.le_succ _) _).setCell (p := ⟨w.heap.size + 1, 1, none⟩) (Nat.le_succ _) _).alloc (by simp; omega) _)⟩
  by_cases h4 : x = 26
  · subst h4
    rw [seq_26]
    go_enter Tryd.func17, Tryd.ntmps17
    go_wp2_with (first | (go_at_call 28; refine (invalid_any _).mono ?_; rintro e w2 ⟨rfl, hb2⟩; replace HA := hide (HA.out.below hb2); replace H3 := hide (H3.out.trans (hb2.mono (by first | omega | (simp; omega)))); clear hb2; obtain ⟨q0, q1, q2, q3, -⟩ := HA.out; have hzl : w.heap.size + 1 < w2.heap.size := HA.out.lt) | fail)
    obtain ⟨r0, r1, -⟩ := (HA.out.set (.int .i64 0) (.string ⟨#[]⟩)).below ((Below.refl _ _).alloc (Nat.le_refl _) (.cells #[.int .i64 5, .int .i32 0, .slice none 0 0, .int .u8 0] 34))
    refine bodyPost_ret (v := .tuple #[.agg #[.int .i64 0, .string ⟨#[]⟩], .slice (some ⟨w2.heap.size, 0, none⟩) 1 1]) ?_ rfl ?_
    · simp [results, Tryd.results17, go_sem, r0, r1]
    · exact ⟨_, rfl, lit_at (NumsV.nil _) (by simp), (((H3.out.setCell (p := ⟨w.heap.size + 1, 0, none⟩) (Nat.le_succ _) _).setCell (p := ⟨w.heap.size + 1, 1, none⟩) (Nat.le_succ _) _).alloc (by simp; omega) _)⟩
  have t1 : (x == 27) = false := by simp [h2]
  have t2 : (x == 24) = false := by simp [h3]
  have t3 : (x == 26) = false := by simp [h4]
  by_cases h5 : x < 32
  · rw [seq_ctl h2 h3 h4 h5]
    go_enter Tryd.func17, Tryd.ntmps17
    go_wp2
    refine bodyPost_ret (v := .tuple #[.agg #[.int .i64 2, .string t], .slice (some ⟨w.heap.size + 1 + 1, 0, none⟩) 1 1]) ?_ rfl ?_
    · simp [results, Tryd.results17, go_sem]
    · exact ⟨_, rfl, lit_at (NumsV.nil _) (by simp), (((Below.refl _ _).alloc (Nat.le_refl _) _).alloc (by simp) _).alloc (by simp; omega) _⟩
  by_cases h6 : x = 91
  · subst h6
    rw [seq2_br]
    go_enter Tryd.func17, Tryd.ntmps17
    go_wp2
    refine bodyPost_ret (v := .tuple #[.agg #[.int .i64 3, .string ⟨#[]⟩], .slice none 0 0]) ?_ rfl ?_
    · simp [results, Tryd.results17, go_sem]
    · exact ⟨_, rfl, ActsV.nil _, ((Below.refl _ _).alloc (Nat.le_refl _) _).alloc (by simp) _⟩
  have t4 : (x == 91) = false := by simp [h6]
  by_cases h7 : 48 ≤ x
  · by_cases h8 : x < 127
    · rw [seq2_esc h7 h8 h6]
      go_enter Tryd.func17, Tryd.ntmps17
      go_wp2
      refine bodyPost_ret (v := .tuple #[.agg #[.int .i64 0, .string ⟨#[]⟩], .slice (some ⟨w.heap.size + 1 + 1, 0, none⟩) 1 1]) ?_ rfl ?_
      · simp [results, Tryd.results17, go_sem]
      · exact ⟨_, rfl, lit_at (NumsV.nil _) (by simp), (((Below.refl _ _).alloc (Nat.le_refl _) _).alloc (by simp) _).alloc (by simp; omega) _⟩
    · rw [seq2_bad (by omega) (.inr (by omega))]
      go_enter Tryd.func17, Tryd.ntmps17
      go_wp2_with (first | (go_at_call 28; refine (invalid_any _).mono ?_; rintro e w2 ⟨rfl, hb2⟩; replace HA := hide (HA.out.below hb2); replace H3 := hide (H3.out.trans (hb2.mono (by first | omega | (simp; omega)))); clear hb2; obtain ⟨q0, q1, q2, q3, -⟩ := HA.out; have hzl : w.heap.size + 1 < w2.heap.size := HA.out.lt) | fail)
      obtain ⟨r0, r1, -⟩ := (HA.out.set (.int .i64 0) (.string ⟨#[]⟩)).below ((Below.refl _ _).alloc (Nat.le_refl _) (.cells #[.int .i64 5, .int .i32 0, .slice none 0 0, .int .u8 0] 34))
      refine bodyPost_ret (v := .tuple #[.agg #[.int .i64 0, .string ⟨#[]⟩], .slice (some ⟨w2.heap.size, 0, none⟩) 1 1]) ?_ rfl ?_
      · simp [results, Tryd.results17, go_sem, r0, r1]
      · exact ⟨_, rfl, lit_at (NumsV.nil _) (by simp), (((H3.out.setCell (p := ⟨w.heap.size + 1, 0, none⟩) (Nat.le_succ _) _).setCell (p := ⟨w.heap.size + 1, 1, none⟩) (Nat.le_succ _) _).alloc (by simp; omega) _)⟩
  · rw [seq2_bad (by omega) (.inl (by omega))]
    go_enter Tryd.func17, Tryd.ntmps17
    go_wp2_with (first | (go_at_call 28; refine (invalid_any _).mono ?_; rintro e w2 ⟨rfl, hb2⟩; replace HA := hide (HA.out.below hb2); replace H3 := hide (H3.out.trans (hb2.mono (by first | omega | (simp; omega)))); clear hb2; obtain ⟨q0, q1, q2, q3, -⟩ := HA.out; have hzl : w.heap.size + 1 < w2.heap.size := HA.out.lt) | fail)
    obtain ⟨r0, r1, -⟩ := (HA.out.set (.int .i64 0) (.string ⟨#[]⟩)).below ((Below.refl _ _).alloc (Nat.le_refl _) (.cells #[.int .i64 5, .int .i32 0, .slice none 0 0, .int .u8 0] 34))
    refine bodyPost_ret (v := .tuple #[.agg #[.int .i64 0, .string ⟨#[]⟩], .slice (some ⟨w2.heap.size, 0, none⟩) 1 1]) ?_ rfl ?_
    · simp [results, Tryd.results17, go_sem, r0, r1]
    · exact ⟨_, rfl, lit_at (NumsV.nil _) (by simp), (((H3.out.setCell (p := ⟨w.heap.size + 1, 0, none⟩) (Nat.le_succ _) _).setCell (p := ⟨w.heap.size + 1, 1, none⟩) (Nat.le_succ _) _).alloc (by simp; omega) _)⟩
set_option maxRecDepth 100000 in
set_option maxHeartbeats 2000000 in
theorem pseq3_any (t : ByteArray) (x : Int) (w : World) (ht : t.size ≤ 100000) (h0 : 0 ≤ x) (h1 : x ≤ 255) (HP : Hid (∀ W, Calls Tryd.prog 30 #[.string t] W (ParPost W (params t)))) :
    Calls Tryd.prog 17 #[.agg #[.int .i64 3, .string t], .int .u8 x] w (FeedPost w (stV (inSeq 3 t x).1) (inSeq 3 t x).2) := by
  have c1 := conv_1d
  have ht1 : (t.size : Int) ≤ 100000 := by omega
  have o1 : ((strOfNums [x]).size : Int) ≤ 1 := by rw [one_size]; omega
  have HA := hide (StBox.new (w.alloc (.cells #[.int .i64 3, .string t] 24)) (.int .i64 0) (.string ⟨#[]⟩))
  have H3 := hide (((Below.refl w.heap.size w).alloc (Nat.le_refl _) (.cells #[.int .i64 3, .string t] 24)).alloc (by simp) (.cells #[.int .i64 0, .string ⟨#[]⟩] 24))
  rw [World.size_alloc] at HA
  by_cases h2 : x = 27
  · subst h2
    rw [seq_27]
    go_enter Tryd.func17, Tryd.ntmps17
    go_wp2_with (first | (go_at_call 28; refine (invalid_any _).mono ?_; rintro e w2 ⟨rfl, hb2⟩; replace HA := hide (HA.out.below hb2); replace H3 := hide (H3.out.trans (hb2.mono (by first | omega | (simp; omega)))); clear hb2; obtain ⟨q0, q1, q2, q3, -⟩ := HA.out; have hzl : w.heap.size + 1 < w2.heap.size := HA.out.lt) | fail)
    obtain ⟨r0, r1, -⟩ := (HA.out.set (.int .i64 2) (.string ⟨#[]⟩)).below ((Below.refl _ _).alloc (Nat.le_refl _) (.cells #[.int .i64 5, .int .i32 0, .slice none 0 0, .int .u8 0] 34))
    refine bodyPost_ret (v := .tuple #[.agg #[.int .i64 2, .string ⟨#[]⟩], .slice (some ⟨w2.heap.size, 0, none⟩) 1 1]) ?_ rfl ?_
    · simp [results, Tryd.results17, go_sem, r0, r1]
    · exact ⟨_, rfl, lit_at (NumsV.nil _) (by simp), (((H3.out.setCell (p := ⟨w.heap.size + 1, 0, none⟩) (Nat.le_succ _) _).setCell (p := ⟨w.heap.size + 1, 1, none⟩) (Nat.le_succ _) _).alloc (by simp; omega) _)⟩
  by_cases h3 : x = 24
  · subst h3
    rw [seq_24]
    go_enter Tryd.func17, Tryd.ntmps17
    go_wp2_with (first | (go_at_call 28; refine (invalid_any _).mono ?_; rintro e w2 ⟨rfl, hb2⟩; replace HA := hide (HA.out.below hb2); replace H3 := hide (H3.out.trans (hb2.mono (by first | omega | (simp; omega)))); clear hb2; obtain ⟨q0, q1, q2, q3, -⟩ := HA.out; have hzl : w.heap.size + 1 < w2.heap.size := HA.out.lt) | fail)
    obtain ⟨r0, r1, -⟩ := (HA.out.set (.int .i64 0) (.string ⟨#[]⟩)).below ((Below.refl _ _).alloc (Nat.le_refl _) (.cells #[.int .i64 5, .int .i32 0, .slice none 0 0, .int .u8 0] 34))
    refine bodyPost_ret (v := .tuple #[.agg #[.int .i64 0, .string ⟨#[]⟩], .slice (some ⟨w2.heap.size, 0, none⟩) 1 1]) ?_ rfl ?_
    · simp [results, Tryd.results17, go_sem, r0, r1]
    · exact ⟨_, rfl, lit_at (NumsV.nil _) (by simp), (((H3.out.setCell (p := ⟨w.heap.size + 1, 0, none⟩) (Nat.le_succ _) _).setCell (p := ⟨w.heap.size + 1, 1, none⟩) (Nat.le_succ _) _).alloc (by simp; omega) _)⟩
  by_cases h4 : x = 26
  · subst h4
    rw [seq_26]
    go_enter Tryd.func17, Tryd.ntmps17
    go_wp2_with (first | (go_at_call 28; refine (invalid_any _).mono ?_; rintro e w2 ⟨rfl, hb2⟩; replace HA := hide (HA.out.below hb2); replace H3 := hide (H3.out.trans (hb2.mono (by first | omega | (simp; omega)))); clear hb2; obtain ⟨q0, q1, q2, q3, -⟩ := HA.out; have hzl : w.heap.size + 1 < w2.heap.size := HA.out.lt) | fail)
    obtain ⟨r0, r1, -⟩ := (HA.out.set (.int .i64 0) (.string ⟨#[]⟩)).below ((Below.refl _ _).alloc (Nat.le_refl _) (.cells #[.int .i64 5, .int .i32 0, .slice none 0 0, .int .u8 0] 34))
    refine bodyPost_ret (v := .tuple #[.agg #[.int .i64 0, .string ⟨#[]⟩], .slice (some ⟨w2.heap.size, 0, none⟩) 1 1]) ?_ rfl ?_
    · simp [results, Tryd.results17, go_sem, r0, r1]
    · exact ⟨_, rfl, lit_at (NumsV.nil _) (by simp), (((H3.out.setCell (p := ⟨w.heap.size + 1, 0, none⟩) (Nat.le_succ _) _).setCell (p := ⟨w.heap.size + 1, 1, none⟩) (Nat.le_succ _) _).alloc (by simp; omega) _)⟩
  have t1 : (x == 27) = false := by simp [h2]
  have t2 : (x == 24) = false := by simp [h3]
  have t3 : (x == 26) = false := by simp [h4]
  by_cases h5 : x < 32
  · rw [seq_ctl h2 h3 h4 h5]
    go_enter Tryd.func17, Tryd.ntmps17
    go_wp2
    refine bodyPost_ret (v := .tuple #[.agg #[.int .i64 3, .string t], .slice (some ⟨w.heap.size + 1 + 1, 0, none⟩) 1 1]) ?_ rfl ?_
    · simp [results, Tryd.results17, go_sem]
    · exact ⟨_, rfl, lit_at (NumsV.nil _) (by simp), (((Below.refl _ _).alloc (Nat.le_refl _) _).alloc (by simp) _).alloc (by simp; omega) _⟩
  by_cases h6 : x < 64
  · rw [seq3_more (by omega) h6]
    go_enter Tryd.func17, Tryd.ntmps17
    go_wp2
    refine bodyPost_ret (v := .tuple #[.agg #[.int .i64 3, .string (t ++ strOfNums [x])], .slice none 0 0]) ?_ rfl ?_
    · simp [results, Tryd.results17, go_sem]
    · exact ⟨_, rfl, ActsV.nil _, (((Below.refl _ _).alloc (Nat.le_refl _) _).alloc (by simp) _).alloc (by simp; omega) _⟩
  by_cases h7 : x < 127
  · cases hp : params t with
    | none =>
      rw [seq3_no (by omega) h7 hp]
      have HPP := hide hp
      clear hp
      go_enter Tryd.func17, Tryd.ntmps17
      go_wp2_with (first | (go_at_call 30; refine (par_none (HP.out _) HPP.out).mono ?_; rintro e w1 ⟨pv, rfl, hb1⟩; clear HP; replace HA := hide (HA.out.below hb1); replace H3 := hide (H3.out.trans (hb1.mono (by simp; omega))); have hzp := HA.out.lt; clear hb1) | (go_at_call 28; refine (invalid_any _).mono ?_; rintro e w2 ⟨rfl, hb2⟩; replace HA := hide (HA.out.below hb2); replace H3 := hide (H3.out.trans (hb2.mono (by first | omega | (simp; omega)))); clear hb2; obtain ⟨q0, q1, q2, q3, -⟩ := HA.out; have hzl : w.heap.size + 1 < w2.heap.size := HA.out.lt) | fail)
      obtain ⟨r0, r1, -⟩ := (HA.out.set (.int .i64 0) (.string ⟨#[]⟩)).below ((Below.refl _ _).alloc (Nat.le_refl _) (.cells #[.int .i64 5, .int .i32 0, .slice none 0 0, .int .u8 0] 34))
      refine bodyPost_ret (v := .tuple #[.agg #[.int .i64 0, .string ⟨#[]⟩], .slice (some ⟨w2.heap.size, 0, none⟩) 1 1]) ?_ rfl ?_
      · simp [results, Tryd.results17, go_sem, r0, r1]
      · exact ⟨_, rfl, lit_at (NumsV.nil _) (by simp), (((H3.out.setCell (p := ⟨w.heap.size + 1, 0, none⟩) (Nat.le_succ _) _).setCell (p := ⟨w.heap.size + 1, 1, none⟩) (Nat.le_succ _) _).alloc (by simp; omega) _)⟩
    | some l =>
      rw [seq3_ok (by omega) h7 hp]
      have HPP := hide hp
      clear hp
      go_enter Tryd.func17, Tryd.ntmps17
      go_wp2_with (first | (go_at_call 30; refine (par_some (HP.out _) HPP.out).mono ?_; rintro e w1 ⟨pv, rfl, hnum, hb1⟩; clear HP; replace HA := hide (HA.out.below hb1); replace H3 := hide (H3.out.trans (hb1.mono (by simp; omega))); have hzp := HA.out.lt; obtain ⟨A9, c9, rfl, hcs⟩ := hnum; have HNU : Hid (NumsV w1 (.slice A9 l.length c9) l) := hide ⟨A9, c9, rfl, hcs⟩; clear hb1 hcs; obtain ⟨q0, q1, q2, q3, -⟩ := HA.out; have hzl : w.heap.size + 1 < w1.heap.size := HA.out.lt) | fail)
      have hna := TyA.setCell HA.out.2.2.2.2 ⟨w.heap.size + 1, 0, none⟩ (.int .i64 0)
      have hn2 : NumsV ((w1.setCell ⟨w.heap.size + 1, 0, none⟩ (.int .i64 0)).setCell ⟨w.heap.size + 1, 1, none⟩ (.string ⟨#[]⟩)) (.slice A9 l.length c9) l := nums_far (nums_far HNU.out HA.out.2.2.2.2 (by decide) _ rfl) hna (by decide) _ rfl
      have HN2 := hide hn2
      clear hna hn2
      obtain ⟨r0, r1, -⟩ := (HA.out.set (.int .i64 0) (.string ⟨#[]⟩)).below ((Below.refl _ _).alloc (Nat.le_refl _) (.cells #[.int .i64 3, .int .i32 0, .slice A9 l.length c9, .int .u8 x] 34))
      refine bodyPost_ret (v := .tuple #[.agg #[.int .i64 0, .string ⟨#[]⟩], .slice (some ⟨w1.heap.size, 0, none⟩) 1 1]) ?_ rfl ?_
      · simp [results, Tryd.results17, go_sem, r0, r1]
      · exact ⟨_, rfl, lit_at HN2.out (by simp), (((H3.out.setCell (p := ⟨w.heap.size + 1, 0, none⟩) (Nat.le_succ _) _).setCell (p := ⟨w.heap.size + 1, 1, none⟩) (Nat.le_succ _) _).alloc (by simp; omega) _)⟩
  · rw [seq3_high (by omega)]
    go_enter Tryd.func17, Tryd.ntmps17
    go_wp2_with (first | (go_at_call 28; refine (invalid_any _).mono ?_; rintro e w2 ⟨rfl, hb2⟩; replace HA := hide (HA.out.below hb2); replace H3 := hide (H3.out.trans (hb2.mono (by first | omega | (simp; omega)))); clear hb2; obtain ⟨q0, q1, q2, q3, -⟩ := HA.out; have hzl : w.heap.size + 1 < w2.heap.size := HA.out.lt) | fail)
    obtain ⟨r0, r1, -⟩ := (HA.out.set (.int .i64 0) (.string ⟨#[]⟩)).below ((Below.refl _ _).alloc (Nat.le_refl _) (.cells #[.int .i64 5, .int .i32 0, .slice none 0 0, .int .u8 0] 34))
    refine bodyPost_ret (v := .tuple #[.agg #[.int .i64 0, .string ⟨#[]⟩], .slice (some ⟨w2.heap.size, 0, none⟩) 1 1]) ?_ rfl ?_
    · simp [results, Tryd.results17, go_sem, r0, r1]
    · exact ⟨_, rfl, lit_at (NumsV.nil _) (by simp), (((H3.out.setCell (p := ⟨w.heap.size + 1, 0, none⟩) (Nat.le_succ _) _).setCell (p := ⟨w.heap.size + 1, 1, none⟩) (Nat.le_succ _) _).alloc (by simp; omega) _)⟩
end Go.Proofs.YtmheleifjpfciaaDoor
