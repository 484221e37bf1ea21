/- The walk of limnerlaw07.ParserFew. -/
import Derived.Test.YtmheleifjpfciaaDoorAtell
namespace Go.Proofs.YtmheleifjpfciaaDoor
open Go.RowKit

theorem beg_24 {t : ByteArray} (h : 0 < t.size) : begB (t ++ strOfNums [24]) = false := by
  unfold begB
  refine decide_eq_false (fun hh => ?_)
  have hz : (t ++ strOfNums [24]).size = t.size + 1 := by rw [join_size, one_size]
  have hg : (t ++ strOfNums [24]).get! t.size = 24 := join_getR (c := 24) rfl
  rw [hz] at hh
  obtain ⟨-, h1, h2, h3⟩ := hh
  have hn := need_le ((t ++ strOfNums [24]).get! 0).toNat
  by_cases e1 : t.size = 1
  · rw [e1] at hg
    have h2 := (h2 (by omega)).1
    rw [hg] at h2
    revert h2
    unfold loN
    have : (24 : UInt8).toNat = 24 := rfl
    (repeat' split) <;> omega
  by_cases e2 : t.size = 2
  · rw [e2] at hg
    have h3 := (h3 (by omega)).1
    rw [hg] at h3
    have : (24 : UInt8).toNat = 24 := rfl
    omega
  · omega
theorem can_state {k : Nat} {p : Nat × ByteArray} (h : StOk k p) : (feed p 24).1 = (0, ⟨#[]⟩) := by
  unfold feed
  rcases h with h | h | h | h
  · rw [if_pos h.1]; rfl
  · rw [if_neg (by omega), if_pos h.1]
    unfold inRune
    rw [beg_24 h.2.1]
    split
    · rfl
    · rfl
  · rw [if_neg (by omega), if_neg (by omega)]; rfl
  · rw [if_neg (by omega), if_neg (by omega)]; rfl
theorem outA_front (s : ByteArray) {i n : Nat} (h : i ≤ n) : ∃ R, outA s n = outA s i ++ R := by
  induction n with
  | zero => obtain rfl : i = 0 := by omega
            exact ⟨[], by simp⟩
  | succ n ih =>
    by_cases hi : i = n + 1
    · subst hi; exact ⟨[], by simp⟩
    · obtain ⟨R, hR⟩ := ih (by omega)
      exact ⟨R ++ (feed (stA s n) (s.get! n).toNat).2, by simp only [outA]; rw [hR, List.append_assoc]⟩
/-- What is left of a slice reads as these actions. -/
def ActW (W : World) (v : Value) (R : List Ac) : Prop := ∃ A cap, v = .slice A R.length cap ∧ R.length ≤ cap ∧ ∀ j a, R[j]? = some a → ∃ b o pv, A = some ⟨b, o, none⟩ ∧ NumsV W pv a.ps ∧ W.cell? ⟨b, o + j * 4, none⟩ = some (.int .i64 a.kind) ∧ W.cell? ⟨b, o + j * 4 + 1, none⟩ = some (.int .i32 a.r) ∧ W.cell? ⟨b, o + j * 4 + 2, none⟩ = some pv ∧ W.cell? ⟨b, o + j * 4 + 3, none⟩ = some (.int .u8 a.fin)
theorem ActW.of {W : World} {v : Value} {R : List Ac} (h : ActsV W v R) : ActW W v R := by
  have h2 := h
  obtain ⟨A, cap, M, rfl, em, h0, hcap, hn, hc⟩ := h2
  exact ⟨A, cap, rfl, hcap, fun j a hj => acts_at h hj⟩
theorem ActW.below {w W : World} {v : Value} {R : List Ac} (h : ActW w v R) (hb : Below w.heap.size w W) : ActW W v R := by
  obtain ⟨A, cap, e, hcap, hc⟩ := h
  refine ⟨A, cap, e, hcap, fun j a hj => ?_⟩
  obtain ⟨b, o, pv, ea, hn, c0, c1, c2, c3⟩ := hc j a hj
  exact ⟨b, o, pv, ea, hn.below hb, kc hb c0, kc hb c1, kc hb c2, kc hb c3⟩
theorem ActW.rest {W : World} {b o cap : Nat} {a : Ac} {R : List Ac} (h : ActW W (.slice (some ⟨b, o, none⟩) (R.length + 1) cap) (a :: R)) : ActW W (.slice (some ⟨b, o + 4, none⟩) R.length (cap - 1)) R := by
  obtain ⟨A, cap', e, hcap, hc⟩ := h
  injection e with e1 e2 e3
  subst e1 e3
  refine ⟨_, _, rfl, by simp at hcap; omega, fun j x hj => ?_⟩
  obtain ⟨b', o', pv, ea, hn, c0, c1, c2, c3⟩ := hc (j + 1) x (by simpa using hj)
  injection ea with ea; injection ea with ea1 ea2
  subst ea1 ea2
  refine ⟨b, o + 4, pv, rfl, hn, ?_, ?_, ?_, ?_⟩
  · rw [show o + 4 + j * 4 = o + (j + 1) * 4 by omega]; exact c0
  · rw [show o + 4 + j * 4 = o + (j + 1) * 4 by omega]; exact c1
  · rw [show o + 4 + j * 4 = o + (j + 1) * 4 by omega]; exact c2
  · rw [show o + 4 + j * 4 = o + (j + 1) * 4 by omega]; exact c3
theorem ActW.emp {W : World} {A : Option Addr} : ActW W (.slice A 0 0) [] := ⟨A, 0, rfl, Nat.le_refl _, fun j a h => by simp at h⟩
theorem ActW.set2 {W : World} {v : Value} {R : List Ac} (h : ActW W v R) {b : Nat} {cs : Array Value} {T : TypeId} {f : Nat × Nat} (hb : W.heap[b]? = some (.cells cs T f)) (h2 : cs.size = 2) (hT : T ≠ 3) (x y : Value) : ActW ((W.setCell ⟨b, 0, none⟩ x).setCell ⟨b, 1, none⟩ y) v R := by
  obtain ⟨A, cap, e, hcap, hc⟩ := h
  have ht : TyA W b T := ⟨cs, f, hb⟩
  refine ⟨A, cap, e, hcap, fun j a hj => ?_⟩
  obtain ⟨g, o, pv, ea, hn, c0, c1, c2, c3⟩ := hc j a hj
  have hgb : b ≠ g := by
    intro hgb
    subst hgb
    simp only [World.cell?, hb] at c3
    have := (Array.getElem?_eq_some_iff.1 c3).1
    omega
  refine ⟨g, o, pv, ea, nums_far (nums_far hn ht hT _ rfl) (ht.setCell _ _) hT _ rfl, ?_, ?_, ?_, ?_⟩
  all_goals
    rw [World.cell?_setCell_far _ _ _ _ hgb, World.cell?_setCell_far _ _ _ _ hgb]
    assumption
theorem ActW.form {W : World} {v : Value} {R : List Ac} (h : ActW W v R) : ∃ A c, v = .slice A R.length c ∧ R.length ≤ c := by
  obtain ⟨A, c, e, hcap, _⟩ := h
  exact ⟨A, c, e, hcap⟩
theorem ActW.at0 {W : World} {A : Option Addr} {c n : Nat} {a : Ac} {R : List Ac} (h : ActW W (.slice A n c) (a :: R)) : ∃ b o pv, A = some ⟨b, o, none⟩ ∧ NumsV W pv a.ps ∧ W.cell? ⟨b, o, none⟩ = some (.int .i64 a.kind) ∧ W.cell? ⟨b, o + 1, none⟩ = some (.int .i32 a.r) ∧ W.cell? ⟨b, o + 2, none⟩ = some pv ∧ W.cell? ⟨b, o + 3, none⟩ = some (.int .u8 a.fin) := by
  obtain ⟨A', c', e, hcap, hc⟩ := h
  injection e with e1 e2 e3
  subst e1
  obtain ⟨b, o, pv, ea, r⟩ := hc 0 a rfl
  simp only [Nat.zero_mul, Nat.add_zero] at r
  exact ⟨b, o, pv, ea, r⟩
set_option maxRecDepth 100000 in
set_option maxHeartbeats 8000000 in
theorem ParserFew_any (s t : ByteArray) (w : World) (hT : UTabs w) :
    Calls Tryd.prog 5 #[.string s, .string t] w fun e w' => e = .returned (.bool true) ∧ Below w.heap.size w w' := by
  have HT := hide hT
  clear hT
  by_cases hbig : 300 < s.size
  · go_enter Tryd.func5, Tryd.ntmps5
    go_wp2_with (first | (go_at_call 8; refine (asked_any _ HT.out).mono ?_; rintro e w1 ⟨rfl, hb1⟩) | fail)
    go_ret
    exact ⟨rfl, hb1⟩
  by_cases hbig2 : 300 < t.size
  · go_enter Tryd.func5, Tryd.ntmps5
    go_wp2_with (first | (go_at_call 8; refine (asked_any _ HT.out).mono ?_; rintro e w1 ⟨rfl, hb1⟩) | fail)
    go_ret
    exact ⟨rfl, hb1⟩
  have hs : s.size ≤ 300 := by omega
  have ht : t.size ≤ 300 := by omega
  clear hbig hbig2
  go_enter Tryd.func5, Tryd.ntmps5
  go_wp2
  go_loopw [6] (fun i wr => ∃ k : Nat, k ≤ s.size ∧ i = .int .i64 k ∧ Hid (Blk wr w.heap.size 24 [.int .i64 (stA s k).1, .string (stA s k).2]) ∧ Hid (Below w.heap.size w wr)) (fun i _ => s.size - (intOf i).toNat)
  case atStart => exact ⟨0, Nat.zero_le _, rfl, hide (Blk.new w 24 [.int .i64 0, .string ⟨#[]⟩]), hide ((Below.refl _ _).alloc (Nat.le_refl _) _)⟩
  case round =>
    obtain ⟨k, hk, rfl, HB, H3⟩ := hrel
    by_cases hlt : k < s.size
    · have HC := hide (fun W hW => pfeed_any k (stA s k) ((s.get! k).toNat : Int) W (by omega) hW (stA_ok s k) (by omega) (by have := (s.get! k).toNat_lt; omega))
      have hc0 := HB.out.cell (i := 0) rfl
      have hc1 := HB.out.cell (i := 1) rfl
      have hsk := get_nat s k hlt
      obtain ⟨x, hx⟩ : ∃ x : Int, ((s.get! k).toNat : Int) = x := ⟨_, rfl⟩
      rw [hx] at HC hsk
      obtain ⟨q, L, hq⟩ : ∃ q L, feed (stA s k) x = (q, L) := ⟨_, _, rfl⟩
      have HX := hide hx
      have HQ := hide hq
      rw [hq] at HC
      have hl2 : L.length ≤ 2 := by have h2 := feed_two (stA s k) x; rw [hq] at h2; exact h2
      obtain ⟨⟨ga, gt⟩, hg⟩ : ∃ g, stA s k = g := ⟨_, rfl⟩
      rw [hg] at hc0 hc1 HB
      replace HC : Hid (∀ W, UTabs W → Calls Tryd.prog 9 #[.agg #[.int .i64 ga, .string gt], .int .u8 x] W (FeedPost W (stV q) L)) := by rw [hg] at HC; exact HC
      have HTS := hide (show TS w (.int .i64 ga) (.string gt) (.slice none 0 0) [] wr from ⟨HB.out, OwnA.nil _ _ _, H3.out⟩)
      clear hx hq hg
      have h0k : (0 : Int) ≤ (k : Int) := by omega
      have hks : (k : Int) < (s.size : Int) := by omega
      go_wp2
      go_region_held3 (fun W => W.cell? ⟨w.heap.size, 0, none⟩ = some (.int .i64 ga) ∧ W.cell? ⟨w.heap.size, 1, none⟩ = some (.string gt) ∧ Hid (TS w (.int .i64 ga) (.string gt) (.slice none 0 0) [] W))
        (first | exact TS.keep HTS.out ((Below.refl _ _).drew) | exact TS.keep HTS.out (((Below.refl _ _).alloc (Nat.le_refl _) _).drew) | exact TS.keep HTS.out ((Below.refl _ _).alloc (Nat.le_refl _) _) | exact TS.keep HTS1.out (Below.refl _ _) | exact TS.keep HTS1.out ((Below.refl _ _).alloc (Nat.le_refl _) _) | exact TS.keepf HTS1.out hlt6 hbx.ty _ _)
        (first | (go_at_call 9; refine (HC.out _ (HT.out.below (by assumption : _ ∧ _ ∧ Hid (TS _ _ _ _ _ _)).2.2.out.2.2)).mono ?_; intro e w1 hpost; obtain ⟨g1, t1, A1, c1, rfl, hgv, hacts, hb1⟩ := feed_open hpost; clear hpost; have HTS1 := hide ((by assumption : _ ∧ _ ∧ Hid (TS _ _ _ _ _ _)).2.2.out.below hb1); (first | (have hbx := (Blk.new wr 24 [.int .i64 0, .string ⟨#[]⟩]).drew.below hb1; have hb60 := hbx.cell (i := 0) rfl; have hb61 := hbx.cell (i := 1) rfl; have hb6f := hbx.frozen 0; have hb6g := hbx.frozen 1; have hlt6 : w.heap.size < wr.heap.size := HB.out.lt) | skip)) | fail)
      all_goals
        first
          | (have hb6 := blk_set2 hbx (.int .i64 g1) (.string t1); have hts := HTS1.out.far hlt6 hbx.ty (.int .i64 g1) (.string t1); obtain ⟨b6, h6⟩ : ∃ b6, wr.heap.size = b6 := ⟨_, rfl⟩; rw [h6] at hb6 hts hlt6; simp only [h6]; obtain ⟨W2, hW2⟩ : ∃ W2, (w1.setCell ⟨b6, 0, none⟩ (.int .i64 g1)).setCell ⟨b6, 1, none⟩ (.string t1) = W2 := ⟨_, rfl⟩; rw [hW2] at hb6 hts; simp only [hW2]; have hne : w.heap.size < b6 := hlt6; clear hb60 hb61 hb6f hb6g hbx hlt6)
          | (have hb6 := Blk.new w1 24 [.int .i64 g1, .string t1]; have hal := (Below.refl w1.heap.size w1).alloc (Nat.le_refl _) (.cells #[.int .i64 g1, .string t1] 24); have hts := HTS1.out.below hal; have hne : w.heap.size < w1.heap.size := HTS1.out.1.lt; obtain ⟨b6, h6⟩ : ∃ b6, w1.heap.size = b6 := ⟨_, rfl⟩; rw [h6] at hb6 hne; simp only [h6]; obtain ⟨W2, hW2⟩ : ∃ W2, w1.alloc (.cells #[.int .i64 g1, .string t1] 24) = W2 := ⟨_, rfl⟩; rw [show w1.alloc (.cells [.int .i64 g1, .string t1].toArray 24) = W2 from hW2] at hb6; rw [hW2] at hts; simp only [hW2]; clear hal)
        have d0 := hb6.cell (i := 0) rfl
        have d1 := hb6.cell (i := 1) rfl
        have e0 := hts.1.cell (i := 0) rfl
        have e1 := hts.1.cell (i := 1) rfl
        have f0 := hts.1.frozen 0
        have f1 := hts.1.frozen 1
        have HB3 := hide (blk_set2 hts.1 (.int .i64 g1) (.string t1))
        have HW3 := hide ((hts.2.2.setCell (p := ⟨w.heap.size, 0, none⟩) (Nat.le_refl _) (.int .i64 g1)).setCell (p := ⟨w.heap.size, 1, none⟩) (Nat.le_refl _) (.string t1))
        have HGV := hide hgv
        have HN1 := hide (st_next HX.out HQ.out).1
        clear hW2 h6 HTS1 HTS hb1 hacts hgv hts hb6 HC
        go_wp2
        go_roundw
        case rel =>
          refine ⟨k + 1, by omega, by go_num, hide ?_, HW3⟩
          rw [HN1.out, st_cells HGV.out]; exact HB3.out
        case measure => simp [intOf]; omega
    · obtain rfl : k = s.size := by omega
      have HC := hide (fun W hW => pfeed_any s.size (stA s s.size) 24 W (by omega) hW (stA_ok s s.size) (by omega) (by omega))
      have hc0 := HB.out.cell (i := 0) rfl
      have hc1 := HB.out.cell (i := 1) rfl
      have hcan := can_state (stA_ok s s.size)
      obtain ⟨q, L, hq⟩ : ∃ q L, feed (stA s s.size) 24 = (q, L) := ⟨_, _, rfl⟩
      rw [hq] at HC hcan
      replace hcan : q = (0, ⟨#[]⟩) := hcan
      subst hcan
      obtain ⟨⟨ga, gt⟩, hg⟩ : ∃ g, stA s s.size = g := ⟨_, rfl⟩
      rw [hg] at hc0 hc1 HB
      replace HC : Hid (∀ W, UTabs W → Calls Tryd.prog 9 #[.agg #[.int .i64 ga, .string gt], .int .u8 24] W (FeedPost W (stV (0, ⟨#[]⟩)) L)) := by rw [hg] at HC; exact HC
      clear hq hg
      have HTO := hide (fun W hW => told_any t W hW (by omega))
      go_wp2_with (first
        | (go_at_call 9; refine (HC.out _ (HT.out.below H3.out)).mono ?_; intro e w1 hpost; obtain ⟨v1, rfl, hacts, hb1⟩ := hpost; have H4 := hide (H3.out.trans (hb1.mono H3.out.size)); clear hb1 hacts; unfold stV)
        | (go_at_call 12; refine (HTO.out _ (HT.out.below (H4.out.alloc H4.out.size _))).mono ?_; rintro e w2 ⟨v2, rfl, hacts, hb2⟩; have HB9 := hide ((Blk.new w1 24 [.int .i64 0, .string ⟨#[]⟩]).below hb2); have HW9 := hide (((Below.refl w1.heap.size w1).alloc (Nat.le_refl _) (.cells #[.int .i64 0, .string ⟨#[]⟩] 24)).trans (hb2.mono (by simp))); have HAW := hide (ActW.of hacts); clear hacts hb2)
        | fail)
      have HW1 := H4
      clear HB hc0 hc1 HC HTO H4 H3
      go_loopw [11, 12] (fun v i wr => ∃ (k : Nat) (R : List Ac), k ≤ t.size ∧ i = .int .i64 k ∧ Hid (outA t t.size = outA t k ++ R) ∧ Hid (ActW wr v R) ∧ Hid (Blk wr w1.heap.size 24 [.int .i64 (stA t k).1, .string (stA t k).2]) ∧ Hid (Below w1.heap.size w1 wr)) (fun _ i _ => t.size - (intOf i).toNat)
      case atStart => exact ⟨0, outA t t.size, Nat.zero_le _, rfl, hide rfl, HAW, HB9, HW9⟩
      case round =>
        clear HAW HB9 HW9
        obtain ⟨k, R, hk, rfl, HR, HAW, HB, H3⟩ := hrel
        by_cases hlt : k < t.size
        · have HC := hide (fun W hW => pfeed_any k (stA t k) ((t.get! k).toNat : Int) W (by omega) hW (stA_ok t k) (by omega) (by have := (t.get! k).toNat_lt; omega))
          have HPS := hide (feed_ps (stA t k) ((t.get! k).toNat : Int))
          have hc0 := HB.out.cell (i := 0) rfl
          have hc1 := HB.out.cell (i := 1) rfl
          have hsk := get_nat t k hlt
          obtain ⟨x, hx⟩ : ∃ x : Int, ((t.get! k).toNat : Int) = x := ⟨_, rfl⟩
          rw [hx] at HC hsk HPS
          obtain ⟨q, L, hq⟩ : ∃ q L, feed (stA t k) x = (q, L) := ⟨_, _, rfl⟩
          have HX := hide hx
          have HQ := hide hq
          rw [hq] at HC HPS
          have HL2 := hide (show L.length ≤ 2 by have h2 := feed_two (stA t k) x; rw [hq] at h2; exact h2)
          obtain ⟨R', hR'⟩ : ∃ R', R = L ++ R' := by
            obtain ⟨R', h'⟩ := outA_front t (show k + 1 ≤ t.size by omega)
            rw [HR.out, (st_next hx hq).2, List.append_assoc] at h'
            exact ⟨R', List.append_cancel_left h'⟩
          subst hR'
          obtain ⟨⟨ga, gt⟩, hg⟩ : ∃ g, stA t k = g := ⟨_, rfl⟩
          rw [hg] at hc0 hc1 HB
          replace HC : Hid (∀ W, UTabs W → Calls Tryd.prog 9 #[.agg #[.int .i64 ga, .string gt], .int .u8 x] W (FeedPost W (stV q) L)) := by rw [hg] at HC; exact HC
          have HTS := hide (show TS w1 (.int .i64 ga) (.string gt) (.slice none 0 0) [] wr from ⟨HB.out, OwnA.nil _ _ _, H3.out⟩)
          clear hx hq hg
          have h0k : (0 : Int) ≤ (k : Int) := by omega
          have hks : (k : Int) < (t.size : Int) := by omega
          go_wp2
          go_region_held3 (fun W => W.cell? ⟨w1.heap.size, 0, none⟩ = some (.int .i64 ga) ∧ W.cell? ⟨w1.heap.size, 1, none⟩ = some (.string gt) ∧ Hid (TS w1 (.int .i64 ga) (.string gt) (.slice none 0 0) [] W))
            (first | exact TS.keep HTS.out ((Below.refl _ _).drew) | exact TS.keep HTS.out (((Below.refl _ _).alloc (Nat.le_refl _) _).drew) | exact TS.keep HTS.out ((Below.refl _ _).alloc (Nat.le_refl _) _) | exact TS.keep HTS1.out (Below.refl _ _) | exact TS.keep HTS1.out ((Below.refl _ _).alloc (Nat.le_refl _) _) | exact TS.keepf HTS1.out hlt6 hbx.ty _ _)
            (first | (go_at_call 9; refine (HC.out _ (HT.out.below (HW1.out.trans ((by assumption : _ ∧ _ ∧ Hid (TS _ _ _ _ _ _)).2.2.out.2.2.mono HW1.out.size)))).mono ?_; intro e w4 hpost; obtain ⟨g1, t1, A1, c1, rfl, hgv, hacts, hb1⟩ := feed_open hpost; clear hpost; have HTS1 := hide ((by assumption : _ ∧ _ ∧ Hid (TS _ _ _ _ _ _)).2.2.out.below hb1); (first | (have hbx := (Blk.new wr 24 [.int .i64 0, .string ⟨#[]⟩]).drew.below hb1; have hb60 := hbx.cell (i := 0) rfl; have hb61 := hbx.cell (i := 1) rfl; have hb6f := hbx.frozen 0; have hb6g := hbx.frozen 1; have hlt6 : w1.heap.size < wr.heap.size := HB.out.lt) | skip)) | fail)
          all_goals
            first
              | (have hb6 := blk_set2 hbx (.int .i64 g1) (.string t1); have hact := acts_set2 hacts hbx rfl (by decide) (.int .i64 g1) (.string t1); have hwant := ((HAW.out.below (((Below.refl _ _).alloc (Nat.le_refl _) _).drew)).below hb1).set2 hbx rfl (by decide) (.int .i64 g1) (.string t1); have hts := HTS1.out.far hlt6 hbx.ty (.int .i64 g1) (.string t1); obtain ⟨b6, h6⟩ : ∃ b6, wr.heap.size = b6 := ⟨_, rfl⟩; rw [h6] at hb6 hts hlt6 hact hwant; simp only [h6]; obtain ⟨W2, hW2⟩ : ∃ W2, (w4.setCell ⟨b6, 0, none⟩ (.int .i64 g1)).setCell ⟨b6, 1, none⟩ (.string t1) = W2 := ⟨_, rfl⟩; rw [hW2] at hb6 hts hact hwant; simp only [hW2]; have hne : w1.heap.size < b6 := hlt6; clear hb60 hb61 hb6f hb6g hbx hlt6)
              | (have hb6 := Blk.new w4 24 [.int .i64 g1, .string t1]; have hal := (Below.refl w4.heap.size w4).alloc (Nat.le_refl _) (.cells #[.int .i64 g1, .string t1] 24); have hts := HTS1.out.below hal; have hact := hacts.below hal; have hwant := ((HAW.out.below ((Below.refl _ _).drew)).below hb1).below hal; have hne : w1.heap.size < w4.heap.size := HTS1.out.1.lt; obtain ⟨b6, h6⟩ : ∃ b6, w4.heap.size = b6 := ⟨_, rfl⟩; rw [h6] at hb6 hne; simp only [h6]; obtain ⟨W2, hW2⟩ : ∃ W2, w4.alloc (.cells #[.int .i64 g1, .string t1] 24) = W2 := ⟨_, rfl⟩; rw [show w4.alloc (.cells [.int .i64 g1, .string t1].toArray 24) = W2 from hW2] at hb6; rw [hW2] at hts hact hwant; simp only [hW2]; clear hal)
            have d0 := hb6.cell (i := 0) rfl
            have d1 := hb6.cell (i := 1) rfl
            have e0 := hts.1.cell (i := 0) rfl
            have e1 := hts.1.cell (i := 1) rfl
            have f0 := hts.1.frozen 0
            have f1 := hts.1.frozen 1
            have HB3 := hide (blk_set2 hts.1 (.int .i64 g1) (.string t1))
            have HAC3 := hide (acts_set2 hact hts.1 rfl (by decide) (.int .i64 g1) (.string t1))
            have HAW3 := hide (hwant.set2 hts.1 rfl (by decide) (.int .i64 g1) (.string t1))
            have HW3 := hide ((hts.2.2.setCell (p := ⟨w1.heap.size, 0, none⟩) (Nat.le_refl _) (.int .i64 g1)).setCell (p := ⟨w1.heap.size, 1, none⟩) (Nat.le_refl _) (.string t1))
            have HGV := hide hgv
            have HN1 := hide (st_next HX.out HQ.out)
            clear hW2 h6 HTS1 HTS hb1 hacts hgv hts hb6 hact hwant HC
            go_wp2
            obtain ⟨W3, hW3⟩ : ∃ W3, (W2.setCell ⟨w1.heap.size, 0, none⟩ (.int .i64 g1)).setCell ⟨w1.heap.size, 1, none⟩ (.string t1) = W3 := ⟨_, rfl⟩
            rw [hW3] at HB3 HAC3 HAW3 HW3 ⊢
            clear hW3 d0 d1 e0 e1 f0 f1 hc0 hc1
            go_loopw [11, 15] (fun v i wq => ∃ j : Nat, j ≤ L.length ∧ i = .int .i64 j ∧ Hid (ActW wq v (L.drop j ++ R')) ∧ Hid (Below W3.heap.size W3 wq)) (fun _ i _ => L.length - (intOf i).toNat)
            case atStart => exact ⟨0, Nat.zero_le _, rfl, HAW3, hide (Below.refl _ _)⟩
            case round =>
              clear HAW3
              obtain ⟨j, hj, rfl, HAQ, H4⟩ := hrel
              by_cases hjl : j < L.length
              · have hLa := HAC3.out.below H4.out
                obtain ⟨b, o, pv, rfl, hnum, ca0, ca1, ca2, ca3⟩ := acts_at hLa (List.getElem?_eq_getElem hjl)
                have hdr : L.drop j ++ R' = L[j] :: (L.drop (j + 1) ++ R') := by rw [List.drop_eq_getElem_cons hjl]; rfl
                have hq9 := HAQ.out
                rw [hdr] at hq9
                have hps := HPS.out L[j] (List.getElem_mem hjl)
                generalize L[j] = a at *
                obtain ⟨Aq, cq, hform, hcap⟩ := hq9.form
                rw [List.length_cons] at hform hcap
                subst hform
                obtain ⟨b', o', pv', rfl, hnum', cb0, cb1, cb2, cb3⟩ := hq9.at0
                obtain ⟨Rr, hRr⟩ : ∃ Rr, L.drop (j + 1) ++ R' = Rr := ⟨_, rfl⟩
                rw [hRr] at hq9 hcap ⊢
                have HRR := hide hRr
                have HRest := hide hq9.rest
                have HLK := hide (fun W hW => like_any a.kind a.r a.fin a.ps pv pv' W (by omega) (hnum.below hW) (hnum'.below hW))
                have hrl : Rr.length ≤ 1000 := by
                  have h1 := congrArg List.length HR.out
                  have h2 := outA_len t t.size
                  rw [← hRr]
                  simp only [List.length_append, List.length_drop] at h1 ⊢
                  omega
                clear hnum hnum' hps hLa hdr hq9 hRr HAQ
                generalize a.kind = ak at *
                generalize a.r = ar at *
                generalize a.fin = af at *
                obtain ⟨n, hn⟩ : ∃ n, L.length = n := ⟨_, rfl⟩
                have hl9 := HL2.out
                have HNL := hide hn
                rw [hn] at hl9 hjl hj ⊢
                clear hn
                obtain ⟨m, hm⟩ : ∃ m, Rr.length + 1 = m := ⟨_, rfl⟩
                have HM := hide hm
                rw [hm] at hcap ⊢
                have hm0 : 1 ≤ m := by omega
                have hm1 : m ≤ 2000 := by omega
                have tm : ((m : Int) == 0) = false := by simp; omega
                clear hm
                have h0j : (0 : Int) ≤ (j : Int) := by omega
                have hjs : (j : Int) < (n : Int) := by omega
                have hcI : (m : Int) ≤ (cq : Int) := by omega
                have hmI : (1 : Int) ≤ (m : Int) := by omega
                have hmJ : (0 : Int) < (m : Int) := by omega
                have hmN : 0 < m := by omega
                go_wp2
                go_region_held3 (fun W => W.cell? ⟨b, o + j * 4, none⟩ = some (.int .i64 ak) ∧ W.cell? ⟨b, o + j * 4 + 1, none⟩ = some (.int .i32 ar) ∧ W.cell? ⟨b, o + j * 4 + 2, none⟩ = some pv ∧ W.cell? ⟨b, o + j * 4 + 3, none⟩ = some (.int .u8 af) ∧ W.cell? ⟨b', o', none⟩ = some (.int .i64 ak) ∧ W.cell? ⟨b', o' + 1, none⟩ = some (.int .i32 ar) ∧ W.cell? ⟨b', o' + 2, none⟩ = some pv' ∧ W.cell? ⟨b', o' + 3, none⟩ = some (.int .u8 af))
                  (first | exact ⟨ca0, ca1, ca2, ca3, cb0, cb1, cb2, cb3⟩ | exact ⟨kc hb2 ca0, kc hb2 ca1, kc hb2 ca2, kc hb2 ca3, kc hb2 cb0, kc hb2 cb1, kc hb2 cb2, kc hb2 cb3⟩)
                  (first | (go_at_call 11; refine (HLK.out _ ((Below.refl _ _).drew)).mono ?_; rintro e w5 ⟨rfl, hb2⟩) | fail)
                have H6 := hide (H4.out.drew.trans (hb2.mono H4.out.size))
                have HRest2 := hide ((HRest.out.below ((Below.refl _ _).drew)).below hb2)
                clear hb2
                go_wp2
                go_roundw
                case rel =>
                  refine ⟨j + 1, by have := HNL.out; omega, by go_num, hide ?_, H6⟩
                  have hml : m - 1 = Rr.length := by have := HM.out; omega
                  rw [HRR.out, hml]
                  split
                  · have h0 : Rr = [] := List.length_eq_zero_iff.1 (by omega)
                    subst h0
                    rw [show cq - 1 = 0 by omega]
                    exact ActW.emp
                  · exact HRest2.out
                case measure => simp [intOf]; have := HNL.out; omega
              · obtain rfl : j = L.length := by omega
                have hl9 := HL2.out
                have hq9 := HAQ.out
                rw [List.drop_length, List.nil_append] at hq9
                have HAQ2 := hide hq9
                have HB5 := hide (HB3.out.below H4.out)
                have HW5 := hide (HW3.out.trans (H4.out.mono HW3.out.size))
                clear hq9 HAQ
                go_wp2
                go_roundw
                case rel =>
                  refine ⟨k + 1, R', by omega, by go_num, hide ?_, HAQ2, hide ?_, HW5⟩
                  · rw [HN1.out.2, HR.out, List.append_assoc]
                  · rw [HN1.out.1, st_cells HGV.out]; exact HB5.out
                case measure => simp [intOf]; omega
        · obtain rfl : k = t.size := by omega
          have hR0 : R = [] := by
            have h1 := congrArg List.length HR.out
            rw [List.length_append] at h1
            exact List.length_eq_zero_iff.1 (by omega)
          subst hR0
          obtain ⟨Aq, cq, hform, hcap⟩ := HAW.out.form
          subst hform
          have HW5 := hide (HW1.out.trans (H3.out.mono HW1.out.size))
          go_wp2_with (first | (go_at_call 8; refine (asked_any _ (HT.out.below HW5.out)).mono ?_; rintro e w9 ⟨rfl, hb1⟩) | fail)
          go_ret
          exact ⟨rfl, HW5.out.trans (hb1.mono HW5.out.size)⟩
end Go.Proofs.YtmheleifjpfciaaDoor
