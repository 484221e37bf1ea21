/- The walk of limnerlaw07.ParserTell. -/
import Derived.Test.YtmheleifjpfciaaDoorAasked
import Derived.Test.YtmheleifjpfciaaDoorArfeed
namespace Go.Proofs.YtmheleifjpfciaaDoor
open Go.RowKit

theorem rfeed_open {w : World} {u : ByteArray} {L : List Ac} {e : Ending} {w' : World} (h : FeedPost w (.string u) L e w') : ∃ (A : Option Addr) (c : Nat), e = .returned (.tuple #[.string u, .slice A L.length c]) ∧ ActsV w' (.slice A L.length c) L ∧ Below w.heap.size w w' := by
  obtain ⟨v, rfl, ha, hb⟩ := h
  have ha2 := ha
  obtain ⟨A, c, M, rfl, r⟩ := ha
  exact ⟨A, c, rfl, ha2, hb⟩
theorem params_few {s : ByteArray} {l : List Int} (h : params s = some l) : l.length ≤ 16 := by
  unfold params at h
  split at h
  · injection h with h; subst h; simp
  · cases hp : pgo s.data.toList [] 0 with
    | none => rw [hp] at h; cases h
    | some m =>
      rw [hp] at h
      simp only [Option.bind_some, few] at h
      split at h
      · injection h with h; subst h; assumption
      · cases h
theorem ground_ps (x : Int) : ∀ a ∈ (ground x).2, a.ps = [] := by
  unfold ground
  (repeat' split) <;> simp [inv]
theorem feed_ps (p : Nat × ByteArray) (x : Int) : ∀ a ∈ (feed p x).2, a.ps.length ≤ 16 := by
  have hg : ∀ a ∈ (ground x).2, a.ps.length ≤ 16 := fun a h => by rw [ground_ps x a h]; simp
  unfold feed
  split
  · exact hg
  split
  · unfold inRune
    (repeat' split)
    · simp
    · simp
    · intro a h
      rcases List.mem_cons.1 h with rfl | h
      · simp [inv]
      · exact hg a h
  · unfold inSeq
    (repeat' split)
    any_goals (simp [inv])
    unfold csi
    split
    · rename_i l hl
      simp
      exact params_few hl
    · simp [inv]
set_option maxRecDepth 100000 in
set_option maxHeartbeats 4000000 in
theorem ParserTell_any (s : ByteArray) (w : World) (hT : UTabs w) :
    Calls Tryd.prog 3 #[.string s] w fun e w' => e = .returned (.bool true) ∧ Below w.heap.size w w' := by
  have HT := hide hT
  clear hT
  by_cases hbig : 2000 < s.size
  · go_enter Tryd.func3, Tryd.ntmps3
    go_wp2_with (first | (go_at_call 8; refine (asked_any _ HT.out).mono ?_; rintro e w1 ⟨rfl, hb1⟩) | fail)
    go_ret
    exact ⟨rfl, hb1⟩
  have hs : s.size ≤ 2000 := by omega
  clear hbig
  go_enter Tryd.func3, Tryd.ntmps3
  go_wp2
  go_loopw [4, 5] (fun v i wr => ∃ k : Nat, k ≤ s.size ∧ i = .int .i64 k ∧ v = .string (tOf (stA s k)) ∧ Hid (Blk wr w.heap.size 24 [.int .i64 (stA s k).1, .string (stA s k).2]) ∧ Hid (Below w.heap.size w wr)) (fun _ i _ => s.size - (intOf i).toNat)
  case atStart => exact ⟨0, Nat.zero_le _, rfl, rfl, hide (Blk.new w 24 [.int .i64 0, .string ⟨#[]⟩]), hide ((Below.refl _ _).alloc (Nat.le_refl _) _)⟩
  case round =>
    obtain ⟨k, hk, rfl, rfl, HB, H3⟩ := hrel
    by_cases hlt : k < s.size
    · have HC := hide (fun W hW => pfeed_any k (stA s k) ((s.get! k).toNat : Int) W (by omega) hW (stA_ok s k) (by omega) (by have := (s.get! k).toNat_lt; omega))
      have HR := hide (fun W => rfeed_any k (stA s k) ((s.get! k).toNat : Int) W (by omega) (stA_ok s k) (by omega) (by have := (s.get! k).toNat_lt; omega))
      have HPS := hide (feed_ps (stA s k) ((s.get! k).toNat : Int))
      have hc0 := HB.out.cell (i := 0) rfl
      have hc1 := HB.out.cell (i := 1) rfl
      have hsk := get_nat s k hlt
      obtain ⟨x, hx⟩ : ∃ x : Int, ((s.get! k).toNat : Int) = x := ⟨_, rfl⟩
      rw [hx] at HC HR hsk HPS
      obtain ⟨q, L, hq⟩ : ∃ q L, feed (stA s k) x = (q, L) := ⟨_, _, rfl⟩
      have HX := hide hx
      have HQ := hide hq
      rw [hq] at HC HR HPS
      have HL2 := hide (show L.length ≤ 2 by have h2 := feed_two (stA s k) x; rw [hq] at h2; exact h2)
      replace HR : Hid (∀ W, Calls Tryd.prog 10 #[.string (tOf (stA s k)), .int .u8 x] W (FeedPost W (.string (tOf q)) L)) := HR
      obtain ⟨tt, htt⟩ : ∃ tt, tOf (stA s k) = tt := ⟨_, rfl⟩
      rw [htt] at HR ⊢
      obtain ⟨⟨ga, gt⟩, hg⟩ : ∃ g, stA s k = g := ⟨_, rfl⟩
      rw [hg] at hc0 hc1 HB
      replace HC : Hid (∀ W, UTabs W → Calls Tryd.prog 9 #[.agg #[.int .i64 ga, .string gt], .int .u8 x] W (FeedPost W (stV q) L)) := by rw [hg] at HC; exact HC
      have HTS := hide (show TS w (.int .i64 ga) (.string gt) (.slice none 0 0) [] wr from ⟨HB.out, OwnA.nil _ _ _, H3.out⟩)
      clear hx hq hg htt
      have h0k : (0 : Int) ≤ (k : Int) := by omega
      have hks : (k : Int) < (s.size : Int) := by omega
      go_wp2
      go_region_held3 (fun W => W.cell? ⟨w.heap.size, 0, none⟩ = some (.int .i64 ga) ∧ W.cell? ⟨w.heap.size, 1, none⟩ = some (.string gt) ∧ Hid (TS w (.int .i64 ga) (.string gt) (.slice none 0 0) [] W))
        (first | exact TS.keep HTS.out ((Below.refl _ _).drew) | exact TS.keep HTS.out (((Below.refl _ _).alloc (Nat.le_refl _) _).drew) | exact TS.keep HTS.out ((Below.refl _ _).alloc (Nat.le_refl _) _) | exact TS.keep HTS1.out (Below.refl _ _) | exact TS.keep HTS1.out ((Below.refl _ _).alloc (Nat.le_refl _) _) | exact TS.keepf HTS1.out hlt6 hbx.ty _ _)
        (first | (go_at_call 9; refine (HC.out _ (HT.out.below (by assumption : _ ∧ _ ∧ Hid (TS _ _ _ _ _ _)).2.2.out.2.2)).mono ?_; intro e w1 hpost; obtain ⟨g1, t1, A1, c1, rfl, hgv, hacts, hb1⟩ := feed_open hpost; clear hpost; have HTS1 := hide ((by assumption : _ ∧ _ ∧ Hid (TS _ _ _ _ _ _)).2.2.out.below hb1); (first | (have hbx := (Blk.new wr 24 [.int .i64 0, .string ⟨#[]⟩]).drew.below hb1; have hb60 := hbx.cell (i := 0) rfl; have hb61 := hbx.cell (i := 1) rfl; have hb6f := hbx.frozen 0; have hb6g := hbx.frozen 1; have hlt6 : w.heap.size < wr.heap.size := HB.out.lt) | skip)) | fail)
      all_goals
        first
          | (have hb6 := blk_set2 hbx (.int .i64 g1) (.string t1); have hts := HTS1.out.far hlt6 hbx.ty (.int .i64 g1) (.string t1); have hact := acts_set2 hacts hbx rfl (by decide) (.int .i64 g1) (.string t1); obtain ⟨b6, h6⟩ : ∃ b6, wr.heap.size = b6 := ⟨_, rfl⟩; rw [h6] at hb6 hts hact hlt6; simp only [h6]; obtain ⟨W2, hW2⟩ : ∃ W2, (w1.setCell ⟨b6, 0, none⟩ (.int .i64 g1)).setCell ⟨b6, 1, none⟩ (.string t1) = W2 := ⟨_, rfl⟩; rw [hW2] at hb6 hts hact; simp only [hW2]; have hne : w.heap.size < b6 := hlt6; clear hb60 hb61 hb6f hb6g hbx hlt6)
          | (have hb6 := Blk.new w1 24 [.int .i64 g1, .string t1]; have hal := (Below.refl w1.heap.size w1).alloc (Nat.le_refl _) (.cells #[.int .i64 g1, .string t1] 24); have hts := HTS1.out.below hal; have hact := hacts.below hal; have hne : w.heap.size < w1.heap.size := HTS1.out.1.lt; obtain ⟨b6, h6⟩ : ∃ b6, w1.heap.size = b6 := ⟨_, rfl⟩; rw [h6] at hb6 hne; simp only [h6]; obtain ⟨W2, hW2⟩ : ∃ W2, w1.alloc (.cells #[.int .i64 g1, .string t1] 24) = W2 := ⟨_, rfl⟩; rw [show w1.alloc (.cells [.int .i64 g1, .string t1].toArray 24) = W2 from hW2] at hb6; rw [hW2] at hts hact; simp only [hW2]; clear hal)
        clear hW2 h6 HTS1 HTS hb1 hacts HC
        have HB6 := hide hb6
        have HTSS := hide hts
        have HACT := hide hact
        have HGV := hide hgv
        clear hb6 hts hact hgv
        go_wp2_with (first | (go_at_call 10; refine (HR.out _).mono ?_; intro e w3 hpost; obtain ⟨A3, c3, rfl, hacts, hb3⟩ := rfeed_open hpost; have HACR := hide hacts; replace HACT := hide (HACT.out.below hb3); replace HTSS := hide (HTSS.out.below hb3); replace HB6 := hide (HB6.out.below hb3); clear hpost hb3 hacts HR) | fail)
        go_loopw [10] (fun i wq => ∃ j : Nat, j ≤ L.length ∧ i = .int .i64 j ∧ Hid (Below w3.heap.size w3 wq)) (fun i _ => L.length - (intOf i).toNat)
        case atStart => exact ⟨0, Nat.zero_le _, rfl, hide (Below.refl _ _)⟩
        case round =>
          obtain ⟨j, hj, rfl, H4⟩ := hrel
          by_cases hjl : j < L.length
          · have hLa := HACT.out.below H4.out
            have hLb := HACR.out.below H4.out
            obtain ⟨b, o, pv, rfl, hnum, ca0, ca1, ca2, ca3⟩ := acts_at hLa (List.getElem?_eq_getElem hjl)
            obtain ⟨b', o', pv', rfl, hnum', cb0, cb1, cb2, cb3⟩ := acts_at hLb (List.getElem?_eq_getElem hjl)
            have hps := HPS.out L[j] (List.getElem_mem hjl)
            generalize L[j] = a at *
            have HLK := hide (fun W hW => like_any a.kind a.r a.fin a.ps pv pv' W (by omega) (hnum.below hW) (hnum'.below hW))
            clear hnum hnum' hps hLa hLb
            generalize a.kind = ak at *
            generalize a.r = ar at *
            generalize a.fin = af at *
            obtain ⟨n, hn⟩ : ∃ n, L.length = n := ⟨_, rfl⟩
            have hl9 := HL2.out
            have HNL := hide hn
            rw [hn] at hl9 hjl hj ⊢
            clear hn
            have h0j : (0 : Int) ≤ (j : Int) := by omega
            have hjs : (j : Int) < (n : Int) := by omega
            go_wp2
            go_region_held3 (fun W => W.cell? ⟨b, o + j * 4, none⟩ = some (.int .i64 ak) ∧ W.cell? ⟨b, o + j * 4 + 1, none⟩ = some (.int .i32 ar) ∧ W.cell? ⟨b, o + j * 4 + 2, none⟩ = some pv ∧ W.cell? ⟨b, o + j * 4 + 3, none⟩ = some (.int .u8 af) ∧ W.cell? ⟨b', o' + j * 4, none⟩ = some (.int .i64 ak) ∧ W.cell? ⟨b', o' + j * 4 + 1, none⟩ = some (.int .i32 ar) ∧ W.cell? ⟨b', o' + j * 4 + 2, none⟩ = some pv' ∧ W.cell? ⟨b', o' + j * 4 + 3, none⟩ = some (.int .u8 af))
              (first | exact ⟨ca0, ca1, ca2, ca3, cb0, cb1, cb2, cb3⟩ | exact ⟨kc hb2 ca0, kc hb2 ca1, kc hb2 ca2, kc hb2 ca3, kc hb2 cb0, kc hb2 cb1, kc hb2 cb2, kc hb2 cb3⟩)
              (first | (go_at_call 11; refine (HLK.out _ ((Below.refl _ _).drew)).mono ?_; rintro e w4 ⟨rfl, hb2⟩) | fail)
            have H6 := hide (H4.out.drew.trans (hb2.mono H4.out.size))
            clear hb2
            go_wp2
            go_roundw
            case rel => exact ⟨j + 1, by have := HNL.out; omega, by go_num, H6⟩
            case measure => simp [intOf]; have := HNL.out; omega
          · obtain rfl : j = L.length := by omega
            have hl9 := HL2.out
            have h6 := HB6.out.below H4.out
            have hts := HTSS.out.below H4.out
            have d0 := h6.cell (i := 0) rfl
            have d1 := h6.cell (i := 1) rfl
            have e0 := hts.1.cell (i := 0) rfl
            have e1 := hts.1.cell (i := 1) rfl
            have f0 := hts.1.frozen 0
            have f1 := hts.1.frozen 1
            have HB3 := hide (blk_set2 hts.1 (.int .i64 g1) (.string t1))
            have HW3 := hide ((hts.2.2.setCell (p := ⟨w.heap.size, 0, none⟩) (Nat.le_refl _) (.int .i64 g1)).setCell (p := ⟨w.heap.size, 1, none⟩) (Nat.le_refl _) (.string t1))
            have hn := st_next HX.out HQ.out
            have HN1 := hide hn.1
            clear h6 hts hn
            go_wp2
            go_roundw
            case rel =>
              refine ⟨k + 1, by omega, by go_num, by rw [HN1.out], hide ?_, HW3⟩
              rw [HN1.out, st_cells HGV.out]; exact HB3.out
            case measure => simp [intOf]; omega
    · obtain rfl : k = s.size := by omega
      go_wp2_with (first | (go_at_call 8; refine (asked_any _ (HT.out.below H3.out)).mono ?_; rintro e w1 ⟨rfl, hb1⟩) | fail)
      go_ret
      exact ⟨rfl, H3.out.trans (hb1.mono H3.out.size)⟩
end Go.Proofs.YtmheleifjpfciaaDoor
