/- Contract of parser.Feed. -/
import Derived.Test.YtmheleifjpfciaaDoorAseq
import Derived.Test.YtmheleifjpfciaaDoorApar
namespace Go.Proofs.YtmheleifjpfciaaDoor
open Go.RowKit

theorem flatA_total (M : List (Value × Ac)) (j : Nat) (u : Value) (h : (flatA M)[j]? = some u) : j / 4 * 4 + 3 < (flatA M).length := by
  have h1 := (List.getElem?_eq_some_iff.1 h).1
  rw [flatA_len] at h1 ⊢
  omega
/-- Two stores into a block of two cells. -/
theorem acts_set2 {W : World} {v : Value} {L : List Ac} (h : ActsV W v L) {b : Nat} {cs : Array Value} {T : TypeId} {f : Nat × Nat} (hb : W.heap[b]? = some (.cells cs T f)) (h2 : cs.size = 2) (hT : T ≠ 3) (x y : Value) : ActsV ((W.setCell ⟨b, 0, none⟩ x).setCell ⟨b, 1, none⟩ y) v L := by
  obtain ⟨A, cap, M, e, em, h0, hcap, hn, hc⟩ := h
  have ht : TyA W b T := ⟨cs, f, hb⟩
  refine ⟨A, cap, M, e, em, h0, hcap, fun x hx => ⟨nums_far (nums_far (hn x hx).1 ht hT _ rfl) (ht.setCell _ _) hT _ rfl, (hn x hx).2⟩, fun j u hu => ?_⟩
  obtain ⟨g, o, ea, hx⟩ := hc j u hu
  refine ⟨g, o, ea, ?_⟩
  by_cases hgb : g = b
  · exfalso
    subst hgb
    have h3 := flatA_total M j u hu
    obtain ⟨g2, o2, ea2, hx2⟩ := hc _ _ (List.getElem?_eq_getElem h3)
    rw [ea] at ea2
    injection ea2 with ea2; injection ea2 with e1 e2; subst e1 e2
    simp only [World.cell?, hb] at hx2
    have := (Array.getElem?_eq_some_iff.1 hx2).1
    omega
  · rw [World.cell?_setCell_far _ _ _ _ (fun e => hgb e.symm), World.cell?_setCell_far _ _ _ _ (fun e => hgb e.symm), hx]
theorem feed_open {w : World} {q : Nat × ByteArray} {L : List Ac} {e : Ending} {w' : World} (h : FeedPost w (stV q) L e w') : ∃ (g : Int) (t : ByteArray) (A : Option Addr) (c : Nat), e = .returned (.tuple #[.agg #[.int .i64 g, .string t], .slice A L.length c]) ∧ stV q = .agg #[.int .i64 g, .string t] ∧ ActsV w' (.slice A L.length c) L ∧ Below w.heap.size w w' := by
  obtain ⟨v, rfl, ha, hb⟩ := h
  have ha2 := ha
  obtain ⟨A, c, M, rfl, r⟩ := ha
  exact ⟨q.1, q.2, A, c, rfl, rfl, ha2, hb⟩
theorem feed_shut {w W : World} {q : Nat × ByteArray} {L : List Ac} {g : Int} {t : ByteArray} {v : Value} (e : stV q = .agg #[.int .i64 g, .string t]) (ha : ActsV W v L) (hb : Below w.heap.size w W) : FeedPost w (stV q) L (.returned (.tuple #[.agg #[.int .i64 g, .string t], v])) W := by
  rw [e]; exact ⟨v, rfl, ha, hb⟩
theorem feed_0 (t : ByteArray) (x : Int) : feed (0, t) x = ground x := rfl
theorem feed_1 (t : ByteArray) (x : Int) : feed (1, t) x = inRune t x := rfl
theorem feed_2 (t : ByteArray) (x : Int) : feed (2, t) x = inSeq 2 t x := rfl
theorem feed_3 (t : ByteArray) (x : Int) : feed (3, t) x = inSeq 3 t x := rfl


set_option maxRecDepth 100000 in
set_option maxHeartbeats 2000000 in
theorem pfeed0_any (t : ByteArray) (x : Int) (w : World) (hT : UTabs w) (ht : t = ⟨#[]⟩) (h0 : 0 ≤ x) (h1 : x ≤ 255) :
    Calls Tryd.prog 9 #[.agg #[.int .i64 0, .string t], .int .u8 x] w (FeedPost w (stV (ground x).1) (ground x).2) := by
  have HT := hide hT
  clear hT
  subst ht
  obtain ⟨q, L, hq⟩ : ∃ q L, (ground x) = (q, L) := ⟨_, _, rfl⟩
  have HC := hide (fun W hW => first_any x W hW h0 h1 : ∀ W, UTabs W → Calls Tryd.prog 15 #[.int .u8 x] W (FeedPost W (stV (ground x).1) (ground x).2))
  rw [hq] at HC ⊢
  have H3 := hide (((Below.refl w.heap.size w).alloc (Nat.le_refl _) (.cells #[.int .i64 0, .string ⟨#[]⟩] 24)).alloc (by simp) (.cells #[.int .i64 0, .string ⟨#[]⟩] 24))
  have HA := hide (StBox.new (w.alloc (.cells #[.int .i64 0, .string ⟨#[]⟩] 24)) (.int .i64 0) (.string ⟨#[]⟩))
  have HB := hide (heap_alloc_new (w.alloc (.cells #[.int .i64 0, .string ⟨#[]⟩] 24)) (.cells #[.int .i64 0, .string ⟨#[]⟩] 24))
  rw [World.size_alloc] at HA HB
  clear hq
  go_enter Tryd.func9, Tryd.ntmps9
  go_wp2_with (first | (go_at_call 15; refine (HC.out _ (HT.out.below H3.out)).mono ?_; intro e w1 hpost; obtain ⟨g1, t1, A1, c1, rfl, hg, hacts, hb1⟩ := feed_open hpost; have HG := hide hg; have HA1 := hide (HA.out.below hb1); have HBL := hide ((hb1.block (w.heap.size + 1) (by simp)).trans HB.out); have HACT := hide hacts; have HB1 := hide (H3.out.trans (hb1.mono (by simp; omega))); clear hpost hb1 hacts hg; obtain ⟨q0, q1, q2, q3, -⟩ := HA1.out; have hzl : w.heap.size + 1 < w1.heap.size := HA1.out.lt) | fail)
  obtain ⟨r0, r1, -⟩ := HA1.out.set (.int .i64 g1) (.string t1)
  refine bodyPost_ret (v := .tuple #[.agg #[.int .i64 g1, .string t1], .slice A1 L.length c1]) ?_ rfl ?_
  · simp [results, Tryd.results9, go_sem, r0, r1]
  · exact feed_shut HG.out (acts_set2 HACT.out HBL.out rfl (by decide) _ _) ((HB1.out.setCell (p := ⟨w.heap.size + 1, 0, none⟩) (Nat.le_succ _) _).setCell (p := ⟨w.heap.size + 1, 1, none⟩) (Nat.le_succ _) _)

set_option maxRecDepth 100000 in
set_option maxHeartbeats 2000000 in
theorem pfeed1_any (t : ByteArray) (x : Int) (w : World) (hT : UTabs w) (ht : t.size ≤ 3) (h0 : 0 ≤ x) (h1 : x ≤ 255) :
    Calls Tryd.prog 9 #[.agg #[.int .i64 1, .string t], .int .u8 x] w (FeedPost w (stV (inRune t x).1) (inRune t x).2) := by
  have HT := hide hT
  clear hT
  obtain ⟨q, L, hq⟩ : ∃ q L, (inRune t x) = (q, L) := ⟨_, _, rfl⟩
  have HC := hide (fun W hW => prune_any t x W hW ht h0 h1 : ∀ W, UTabs W → Calls Tryd.prog 16 #[.agg #[.int .i64 1, .string t], .int .u8 x] W (FeedPost W (stV (inRune t x).1) (inRune t x).2))
  rw [hq] at HC ⊢
  have H3 := hide (((Below.refl w.heap.size w).alloc (Nat.le_refl _) (.cells #[.int .i64 1, .string t] 24)).alloc (by simp) (.cells #[.int .i64 0, .string ⟨#[]⟩] 24))
  have HA := hide (StBox.new (w.alloc (.cells #[.int .i64 1, .string t] 24)) (.int .i64 0) (.string ⟨#[]⟩))
  have HB := hide (heap_alloc_new (w.alloc (.cells #[.int .i64 1, .string t] 24)) (.cells #[.int .i64 0, .string ⟨#[]⟩] 24))
  rw [World.size_alloc] at HA HB
  clear hq
  go_enter Tryd.func9, Tryd.ntmps9
  go_wp2_with (first | (go_at_call 16; refine (HC.out _ (HT.out.below H3.out)).mono ?_; intro e w1 hpost; obtain ⟨g1, t1, A1, c1, rfl, hg, hacts, hb1⟩ := feed_open hpost; have HG := hide hg; have HA1 := hide (HA.out.below hb1); have HBL := hide ((hb1.block (w.heap.size + 1) (by simp)).trans HB.out); have HACT := hide hacts; have HB1 := hide (H3.out.trans (hb1.mono (by simp; omega))); clear hpost hb1 hacts hg; obtain ⟨q0, q1, q2, q3, -⟩ := HA1.out; have hzl : w.heap.size + 1 < w1.heap.size := HA1.out.lt) | fail)
  obtain ⟨r0, r1, -⟩ := HA1.out.set (.int .i64 g1) (.string t1)
  refine bodyPost_ret (v := .tuple #[.agg #[.int .i64 g1, .string t1], .slice A1 L.length c1]) ?_ rfl ?_
  · simp [results, Tryd.results9, go_sem, r0, r1]
  · exact feed_shut HG.out (acts_set2 HACT.out HBL.out rfl (by decide) _ _) ((HB1.out.setCell (p := ⟨w.heap.size + 1, 0, none⟩) (Nat.le_succ _) _).setCell (p := ⟨w.heap.size + 1, 1, none⟩) (Nat.le_succ _) _)

set_option maxRecDepth 100000 in
set_option maxHeartbeats 2000000 in
theorem pfeed2_any (t : ByteArray) (x : Int) (w : World) (hT : UTabs w) (ht : t.size ≤ 100000) (h0 : 0 ≤ x) (h1 : x ≤ 255) :
    Calls Tryd.prog 9 #[.agg #[.int .i64 2, .string t], .int .u8 x] w (FeedPost w (stV (inSeq 2 t x).1) (inSeq 2 t x).2) := by
  have HT := hide hT
  clear hT
  obtain ⟨q, L, hq⟩ : ∃ q L, (inSeq 2 t x) = (q, L) := ⟨_, _, rfl⟩
  have HC := hide (fun W hW => pseq2_any t x W ht h0 h1 : ∀ W, UTabs W → Calls Tryd.prog 17 #[.agg #[.int .i64 2, .string t], .int .u8 x] W (FeedPost W (stV (inSeq 2 t x).1) (inSeq 2 t x).2))
  rw [hq] at HC ⊢
  have H3 := hide (((Below.refl w.heap.size w).alloc (Nat.le_refl _) (.cells #[.int .i64 2, .string t] 24)).alloc (by simp) (.cells #[.int .i64 0, .string ⟨#[]⟩] 24))
  have HA := hide (StBox.new (w.alloc (.cells #[.int .i64 2, .string t] 24)) (.int .i64 0) (.string ⟨#[]⟩))
  have HB := hide (heap_alloc_new (w.alloc (.cells #[.int .i64 2, .string t] 24)) (.cells #[.int .i64 0, .string ⟨#[]⟩] 24))
  rw [World.size_alloc] at HA HB
  clear hq
  go_enter Tryd.func9, Tryd.ntmps9
  go_wp2_with (first | (go_at_call 17; refine (HC.out _ (HT.out.below H3.out)).mono ?_; intro e w1 hpost; obtain ⟨g1, t1, A1, c1, rfl, hg, hacts, hb1⟩ := feed_open hpost; have HG := hide hg; have HA1 := hide (HA.out.below hb1); have HBL := hide ((hb1.block (w.heap.size + 1) (by simp)).trans HB.out); have HACT := hide hacts; have HB1 := hide (H3.out.trans (hb1.mono (by simp; omega))); clear hpost hb1 hacts hg; obtain ⟨q0, q1, q2, q3, -⟩ := HA1.out; have hzl : w.heap.size + 1 < w1.heap.size := HA1.out.lt) | fail)
  obtain ⟨r0, r1, -⟩ := HA1.out.set (.int .i64 g1) (.string t1)
  refine bodyPost_ret (v := .tuple #[.agg #[.int .i64 g1, .string t1], .slice A1 L.length c1]) ?_ rfl ?_
  · simp [results, Tryd.results9, go_sem, r0, r1]
  · exact feed_shut HG.out (acts_set2 HACT.out HBL.out rfl (by decide) _ _) ((HB1.out.setCell (p := ⟨w.heap.size + 1, 0, none⟩) (Nat.le_succ _) _).setCell (p := ⟨w.heap.size + 1, 1, none⟩) (Nat.le_succ _) _)

set_option maxRecDepth 100000 in
set_option maxHeartbeats 2000000 in
theorem pfeed3_any (t : ByteArray) (x : Int) (w : World) (hT : UTabs w) (ht : t.size ≤ 100000) (h0 : 0 ≤ x) (h1 : x ≤ 255) :
    Calls Tryd.prog 9 #[.agg #[.int .i64 3, .string t], .int .u8 x] w (FeedPost w (stV (inSeq 3 t x).1) (inSeq 3 t x).2) := by
  have HT := hide hT
  clear hT
  obtain ⟨q, L, hq⟩ : ∃ q L, (inSeq 3 t x) = (q, L) := ⟨_, _, rfl⟩
  have HC := hide (fun W hW => pseq3_any t x W ht h0 h1 (hide (fun W => pparams_any t W ht)) : ∀ W, UTabs W → Calls Tryd.prog 17 #[.agg #[.int .i64 3, .string t], .int .u8 x] W (FeedPost W (stV (inSeq 3 t x).1) (inSeq 3 t x).2))
  rw [hq] at HC ⊢
  have H3 := hide (((Below.refl w.heap.size w).alloc (Nat.le_refl _) (.cells #[.int .i64 3, .string t] 24)).alloc (by simp) (.cells #[.int .i64 0, .string ⟨#[]⟩] 24))
  have HA := hide (StBox.new (w.alloc (.cells #[.int .i64 3, .string t] 24)) (.int .i64 0) (.string ⟨#[]⟩))
  have HB := hide (heap_alloc_new (w.alloc (.cells #[.int .i64 3, .string t] 24)) (.cells #[.int .i64 0, .string ⟨#[]⟩] 24))
  rw [World.size_alloc] at HA HB
  clear hq
  go_enter Tryd.func9, Tryd.ntmps9
  go_wp2_with (first | (go_at_call 17; refine (HC.out _ (HT.out.below H3.out)).mono ?_; intro e w1 hpost; obtain ⟨g1, t1, A1, c1, rfl, hg, hacts, hb1⟩ := feed_open hpost; have HG := hide hg; have HA1 := hide (HA.out.below hb1); have HBL := hide ((hb1.block (w.heap.size + 1) (by simp)).trans HB.out); have HACT := hide hacts; have HB1 := hide (H3.out.trans (hb1.mono (by simp; omega))); clear hpost hb1 hacts hg; obtain ⟨q0, q1, q2, q3, -⟩ := HA1.out; have hzl : w.heap.size + 1 < w1.heap.size := HA1.out.lt) | fail)
  obtain ⟨r0, r1, -⟩ := HA1.out.set (.int .i64 g1) (.string t1)
  refine bodyPost_ret (v := .tuple #[.agg #[.int .i64 g1, .string t1], .slice A1 L.length c1]) ?_ rfl ?_
  · simp [results, Tryd.results9, go_sem, r0, r1]
  · exact feed_shut HG.out (acts_set2 HACT.out HBL.out rfl (by decide) _ _) ((HB1.out.setCell (p := ⟨w.heap.size + 1, 0, none⟩) (Nat.le_succ _) _).setCell (p := ⟨w.heap.size + 1, 1, none⟩) (Nat.le_succ _) _)

/-- parser.Feed. -/
theorem pfeed_any (k : Nat) (p : Nat × ByteArray) (x : Int) (w : World) (hk : k ≤ 90000) (hT : UTabs w) (hp : StOk k p) (h0 : 0 ≤ x) (h1 : x ≤ 255) :
    Calls Tryd.prog 9 #[stV p, .int .u8 x] w (FeedPost w (stV (feed p x).1) (feed p x).2) := by
  obtain ⟨a, t⟩ := p
  rcases hp with ⟨e, hp⟩ | ⟨e, hp, hp2, hp3⟩ | ⟨e, hp⟩ | ⟨e, hp⟩
  · obtain rfl : a = 0 := e
    exact pfeed0_any t x w hT (size0 hp) h0 h1
  · obtain rfl : a = 1 := e
    exact pfeed1_any t x w hT hp2 h0 h1
  · obtain rfl : a = 2 := e
    exact pfeed2_any t x w hT (by have : t.size = 0 := hp; omega) h0 h1
  · obtain rfl : a = 3 := e
    exact pfeed3_any t x w hT (by have : t.size ≤ k := hp; omega) h0 h1
end Go.Proofs.YtmheleifjpfciaaDoor
