/- Contract of limnerlaw07.told. -/
import Derived.Test.YtmheleifjpfciaaDoorAlike
namespace Go.Proofs.YtmheleifjpfciaaDoor
open Go.RowKit

/-- Where one stands behind so many bytes, and what they have asked for. -/
def stA (s : ByteArray) : Nat → Nat × ByteArray
  | 0 => (0, ⟨#[]⟩)
  | k + 1 => (feed (stA s k) (s.get! k).toNat).1
def outA (s : ByteArray) : Nat → List Ac
  | 0 => []
  | k + 1 => outA s k ++ (feed (stA s k) (s.get! k).toNat).2
theorem stA_ok (s : ByteArray) (k : Nat) : StOk k (stA s k) := by
  induction k with
  | zero => exact .inl ⟨rfl, rfl⟩
  | succ k ih => exact feed_ok ih
theorem ground_two (x : Int) : (ground x).2.length ≤ 1 := ground_few x
theorem feed_two (p : Nat × ByteArray) (x : Int) : (feed p x).2.length ≤ 2 := by
  unfold feed
  split
  · have := ground_two x; omega
  split
  · unfold inRune
    (repeat' split) <;> simp
    exact ground_two x
  · unfold inSeq csi
    (repeat' split) <;> simp
theorem outA_len (s : ByteArray) (k : Nat) : (outA s k).length ≤ 2 * k := by
  induction k with
  | zero => simp [outA]
  | succ k ih => simp only [outA, List.length_append]; have := feed_two (stA s k) (s.get! k).toNat; omega

theorem actsA_set2 {W : World} {B : Nat} {E : TypeId} {v : Value} {L : List Ac} (h : OwnA W B E v L) {b : Nat} (hb : TyA W b 24) (hE : 24 ≠ E) (x y : Value) : OwnA ((W.setCell ⟨b, 0, none⟩ x).setCell ⟨b, 1, none⟩ y) B E v L :=
  (h.set (p := ⟨b, 0, none⟩) hb (by decide) hE x).set (p := ⟨b, 1, none⟩) (hb.setCell _ _) (by decide) hE y
theorem Blk.ty {W : World} {b : Nat} {t : TypeId} {cs : List Value} (h : Blk W b t cs) : TyA W b t := ⟨_, _, h⟩
theorem blk_set2 {W : World} {b : Nat} {t : TypeId} {a c : Value} (h : Blk W b t [a, c]) (x y : Value) : Blk ((W.setCell ⟨b, 0, none⟩ x).setCell ⟨b, 1, none⟩ y) b t [x, y] := (h.set 0 x).set 1 y
theorem get_nat (s : ByteArray) (k : Nat) (h : k < s.size) : (s[k].toNat : Int) = ((s.get! k).toNat : Int) := by rw [get_of h]
def TS (w : World) (x y : Value) (v : Value) (L : List Ac) (W : World) : Prop := Blk W w.heap.size 24 [x, y] ∧ OwnA W (w.heap.size + 1) 34 v L ∧ Below w.heap.size w W
theorem TS.below {w W W' : World} {x y v : Value} {L : List Ac} (h : TS w x y v L W) (hb : Below W.heap.size W W') : TS w x y v L W' := ⟨h.1.below hb, h.2.1.below hb, h.2.2.trans (hb.mono h.2.2.size)⟩
theorem TS.keep {w W W' : World} {x y v : Value} {L : List Ac} (h : TS w x y v L W) (hb : Below W.heap.size W W') : W'.cell? ⟨w.heap.size, 0, none⟩ = some x ∧ W'.cell? ⟨w.heap.size, 1, none⟩ = some y ∧ Hid (TS w x y v L W') := by
  have h2 := h.below hb
  exact ⟨h2.1.cell rfl, h2.1.cell rfl, hide h2⟩
theorem TS.far {w W : World} {x y v : Value} {L : List Ac} (h : TS w x y v L W) {b : Nat} (hb : w.heap.size < b) (ht : TyA W b 24) (p q : Value) : TS w x y v L ((W.setCell ⟨b, 0, none⟩ p).setCell ⟨b, 1, none⟩ q) :=
  ⟨(h.1.far (p := ⟨b, 0, none⟩) (fun e => by have e : b = w.heap.size := e; omega) _).far (p := ⟨b, 1, none⟩) (fun e => by have e : b = w.heap.size := e; omega) _, actsA_set2 h.2.1 ht (by decide) _ _, (h.2.2.setCell (p := ⟨b, 0, none⟩) (Nat.le_of_lt hb) _).setCell (p := ⟨b, 1, none⟩) (Nat.le_of_lt hb) _⟩
theorem TS.keepf {w W : World} {x y v : Value} {L : List Ac} (h : TS w x y v L W) {b : Nat} (hb : w.heap.size < b) (ht : TyA W b 24) (p q : Value) : ((W.setCell ⟨b, 0, none⟩ p).setCell ⟨b, 1, none⟩ q).cell? ⟨w.heap.size, 0, none⟩ = some x ∧ ((W.setCell ⟨b, 0, none⟩ p).setCell ⟨b, 1, none⟩ q).cell? ⟨w.heap.size, 1, none⟩ = some y ∧ Hid (TS w x y v L ((W.setCell ⟨b, 0, none⟩ p).setCell ⟨b, 1, none⟩ q)) := by
  have h2 := h.far hb ht p q
  exact ⟨h2.1.cell rfl, h2.1.cell rfl, hide h2⟩
theorem st_cells {q : Nat × ByteArray} {g : Int} {t : ByteArray} (h : stV q = .agg #[.int .i64 g, .string t]) : [Value.int .i64 q.1, .string q.2] = [.int .i64 g, .string t] := by
  unfold stV at h
  injection h with h
  simpa using h
theorem st_next {s : ByteArray} {k : Nat} {x : Int} {q : Nat × ByteArray} {L : List Ac} (hx : ((s.get! k).toNat : Int) = x) (hq : feed (stA s k) x = (q, L)) : stA s (k + 1) = q ∧ outA s (k + 1) = outA s k ++ L := by
  subst hx
  simp only [stA, outA, hq, and_self]
set_option maxRecDepth 100000 in
set_option maxHeartbeats 2000000 in
theorem told_any (s : ByteArray) (w : World) (hT : UTabs w) (hs : s.size ≤ 90000) :
    Calls Tryd.prog 12 #[.string s] w fun e w' => ∃ v, e = .returned v ∧ ActsV w' v (outA s s.size) ∧ Below w.heap.size w w' := by
  have HT := hide hT
  clear hT
  go_enter Tryd.func12, Tryd.ntmps12
  go_wp2
  go_loopw [4, 5] (fun v i wr => ∃ k : Nat, k ≤ s.size ∧ i = .int .i64 k ∧ Hid (Blk wr w.heap.size 24 [.int .i64 (stA s k).1, .string (stA s k).2]) ∧ Hid (OwnA wr (w.heap.size + 1) 34 v (outA s k)) ∧ Hid (outA s k = [] → v = .slice none 0 0) ∧ Hid (Below w.heap.size w wr)) (fun _ i _ => s.size - (intOf i).toNat)
  case atStart => exact ⟨0, Nat.zero_le _, rfl, hide (Blk.new w 24 [.int .i64 0, .string ⟨#[]⟩]), hide (OwnA.nil _ _ _), hide (fun _ => rfl), hide ((Below.refl _ _).alloc (Nat.le_refl _) _)⟩
  case round =>
    obtain ⟨k, hk, rfl, HB, HO, H0, H3⟩ := hrel
    by_cases hlt : k < s.size
    · have HC := hide (fun W hW => pfeed_any k (stA s k) ((s.get! k).toNat : Int) W (by omega) hW (stA_ok s k) (by omega) (by have := (s.get! k).toNat_lt; omega))
      have hc0 := HB.out.cell (i := 0) rfl
      have hc1 := HB.out.cell (i := 1) rfl
      have hsk := get_nat s k hlt
      obtain ⟨x, hx⟩ : ∃ x : Int, ((s.get! k).toNat : Int) = x := ⟨_, rfl⟩
      rw [hx] at HC hsk
      obtain ⟨q, L, hq⟩ : ∃ q L, feed (stA s k) x = (q, L) := ⟨_, _, rfl⟩
      have HX := hide hx
      have HQ := hide hq
      rw [hq] at HC
      obtain ⟨⟨ga, gt⟩, hg⟩ : ∃ g, stA s k = g := ⟨_, rfl⟩
      have HG := hide hg
      rw [hg] at hc0 hc1 HB
      replace HC : Hid (∀ W, UTabs W → Calls Tryd.prog 9 #[.agg #[.int .i64 ga, .string gt], .int .u8 x] W (FeedPost W (stV q) L)) := by rw [hg] at HC; exact HC
      clear hx hq hg
      have HTS := hide (show TS w (.int .i64 ga) (.string gt) u4 (outA s k) wr from ⟨HB.out, HO.out, H3.out⟩)
      have h0k : (0 : Int) ≤ (k : Int) := by omega
      have hks : (k : Int) < (s.size : Int) := by omega
      go_wp2
      go_region_held3 (fun W => W.cell? ⟨w.heap.size, 0, none⟩ = some (.int .i64 ga) ∧ W.cell? ⟨w.heap.size, 1, none⟩ = some (.string gt) ∧ Hid (TS w (.int .i64 ga) (.string gt) u4 (outA s k) W))
        (first | exact ⟨hc0, hc1, hide ⟨HB.out.drew, HO.out, H3.out.drew⟩⟩ | exact TS.keep HTS.out (((Below.refl _ _).alloc (Nat.le_refl _) _).drew) | exact TS.keep HTS.out ((Below.refl _ _).alloc (Nat.le_refl _) _) | exact TS.keep HTS1.out (Below.refl _ _) | exact TS.keep HTS1.out ((Below.refl _ _).alloc (Nat.le_refl _) _) | exact TS.keepf HTS1.out hlt6 hbx.ty _ _)
        (first | (go_at_call 9; refine (HC.out _ (HT.out.below (by assumption : _ ∧ _ ∧ Hid (TS _ _ _ _ _ _)).2.2.out.2.2)).mono ?_; intro e w1 hpost; obtain ⟨g1, t1, A1, c1, rfl, hgv, hacts, hb1⟩ := feed_open hpost; clear hpost; have HTS1 := hide ((by assumption : _ ∧ _ ∧ Hid (TS _ _ _ _ _ _)).2.2.out.below hb1); (first | (have hbx := (Blk.new wr 24 [.int .i64 0, .string ⟨#[]⟩]).drew.below hb1; have hb60 := hbx.cell (i := 0) rfl; have hb61 := hbx.cell (i := 1) rfl; have hb6f := hbx.frozen 0; have hb6g := hbx.frozen 1; have hlt6 : w.heap.size < wr.heap.size := HB.out.lt) | skip)) | fail)
      all_goals
        first
          | (have hb6 := blk_set2 hbx (.int .i64 g1) (.string t1); have hts := HTS1.out.far hlt6 hbx.ty (.int .i64 g1) (.string t1); have hact := acts_set2 hacts hbx rfl (by decide) (.int .i64 g1) (.string t1); obtain ⟨b6, h6⟩ : ∃ b6, wr.heap.size = b6 := ⟨_, rfl⟩; rw [h6] at hb6 hts hact hlt6; simp only [h6]; obtain ⟨W2, hW2⟩ : ∃ W2, (w1.setCell ⟨b6, 0, none⟩ (.int .i64 g1)).setCell ⟨b6, 1, none⟩ (.string t1) = W2 := ⟨_, rfl⟩; rw [hW2] at hb6 hts hact; simp only [hW2]; have hne : w.heap.size < b6 := hlt6; clear hb60 hb61 hb6f hb6g hbx hlt6)
          | (have hb6 := Blk.new w1 24 [.int .i64 g1, .string t1]; have hal := (Below.refl w1.heap.size w1).alloc (Nat.le_refl _) (.cells #[.int .i64 g1, .string t1] 24); have hts := HTS1.out.below hal; have hact := hacts.below hal; have hne : w.heap.size < w1.heap.size := HTS1.out.1.lt; obtain ⟨b6, h6⟩ : ∃ b6, w1.heap.size = b6 := ⟨_, rfl⟩; rw [h6] at hb6 hne; simp only [h6]; obtain ⟨W2, hW2⟩ : ∃ W2, w1.alloc (.cells #[.int .i64 g1, .string t1] 24) = W2 := ⟨_, rfl⟩; rw [show w1.alloc (.cells [.int .i64 g1, .string t1].toArray 24) = W2 from hW2] at hb6; rw [hW2] at hts hact; simp only [hW2]; clear hal)
        clear hW2 h6 HTS1 HTS hb1 hacts
        have d0 := hb6.cell (i := 0) rfl
        have d1 := hb6.cell (i := 1) rfl
        have e0 := hts.1.cell (i := 0) rfl
        have e1 := hts.1.cell (i := 1) rfl
        have f0 := hts.1.frozen 0
        have f1 := hts.1.frozen 1
        have HB3 := hide (blk_set2 hts.1 (.int .i64 g1) (.string t1))
        have HO3 := hide (actsA_set2 hts.2.1 hts.1.ty (by decide) (.int .i64 g1) (.string t1))
        have HAC3 := hide (acts_set2 hact hts.1 rfl (by decide) (.int .i64 g1) (.string t1))
        have HW3 := hide ((hts.2.2.setCell (p := ⟨w.heap.size, 0, none⟩) (Nat.le_refl _) (.int .i64 g1)).setCell (p := ⟨w.heap.size, 1, none⟩) (Nat.le_refl _) (.string t1))
        have HGV := hide hgv
        have HL := hide (show (outA s k).length + L.length ≤ 1000000 by have h1 := outA_len s k; have h2 := feed_two (stA s k) x; rw [HQ.out] at h2; dsimp only at h2; omega)
        clear hgv hts hact hb6
        go_wp2_with (first | (at_builtin; refine wpList_acts _ rfl _ _ 25 34 (.agg #[.int .i64 0, .int .i32 0, .slice none 0 0, .int .u8 0]) rfl (w.heap.size + 1) HB3.out.lt Tryd.underlying25 (by decide) info_acP (by rfl) u4 _ (outA s k) L rfl rfl HO3.out HAC3.out HL.out ?_; intro v6 w6 ho6 hb6 hv6; have HB6 := hide (HB3.out.under hb6 (Nat.lt_succ_self _)); have HW6 := hide (HW3.out.trans (hb6.mono (Nat.le_succ _))); have HO6 := hide ho6; have HV6 := hide hv6; clear ho6 hb6 hv6) | fail)
        go_roundw
        case rel =>
          have hn := st_next HX.out HQ.out
          refine ⟨k + 1, by omega, by go_num, hide ?_, hide ?_, hide ?_, HW6⟩
          · rw [hn.1, st_cells HGV.out]; exact HB6.out
          · rw [hn.2]; exact HO6.out
          · rw [hn.2]; intro he; have h2 := List.append_eq_nil_iff.1 he; exact HV6.out.2 ⟨H0.out h2.1, h2.2⟩
        case measure => simp [intOf]; omega
    · have HE := hide (H0.out)
      obtain rfl : k = s.size := by omega
      go_wp2
      go_ret
      exact ⟨_, rfl, HO.out.acts HE.out, H3.out⟩
end Go.Proofs.YtmheleifjpfciaaDoor
