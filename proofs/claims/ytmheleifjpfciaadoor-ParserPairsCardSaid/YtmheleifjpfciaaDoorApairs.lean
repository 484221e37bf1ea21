/- The walk of limnerlaw07.ParserPairs. -/
import Derived.Test.YtmheleifjpfciaaDoorAtell
namespace Go.Proofs.YtmheleifjpfciaaDoor
open Go.RowKit

set_option maxRecDepth 100000 in
set_option maxHeartbeats 8000000 in
theorem ParserPairs_any (s : ByteArray) (w : World) (hT : UTabs w) :
    Calls Tryd.prog 4 #[.string s] w fun e w' => e = .returned (.bool true) ∧ Below w.heap.size w w' := by
  have HT := hide hT
  clear hT
  by_cases hbig : 60 < s.size
  · go_enter Tryd.func4, Tryd.ntmps4
    go_wp2_with (first | (go_at_call 8; refine (asked_any _ HT.out).mono ?_; rintro e w1 ⟨rfl, hb1⟩) | fail)
    go_ret
    exact ⟨rfl, hb1⟩
  have hs : s.size ≤ 60 := by omega
  clear hbig
  go_enter Tryd.func4, Tryd.ntmps4
  go_wp2
  go_loopw [4, 5] (fun v i wr => ∃ k m : Nat, k ≤ s.size + 1 ∧ Hid (m = min k s.size) ∧ i = .int .i64 k ∧ v = .string (tOf (stA s m)) ∧ Hid (Blk wr w.heap.size 24 [.int .i64 (stA s m).1, .string (stA s m).2]) ∧ Hid (Below w.heap.size w wr)) (fun _ i _ => s.size + 1 - (intOf i).toNat)
  case atStart => exact ⟨0, 0, Nat.zero_le _, hide (by simp), rfl, rfl, hide (Blk.new w 24 [.int .i64 0, .string ⟨#[]⟩]), hide ((Below.refl _ _).alloc (Nat.le_refl _) _)⟩
  case round =>
    obtain ⟨k, m, hk, HM, rfl, rfl, HB, H3⟩ := hrel
    by_cases hlt : k ≤ s.size
    · obtain rfl : m = k := by have := HM.out; omega
      have HC := hide (fun (x : Int) (h0 : 0 ≤ x) (h1 : x ≤ 255) W hW => pfeed_any m (stA s m) x W (by omega) hW (stA_ok s m) h0 h1)
      have HR := hide (fun (x : Int) (h0 : 0 ≤ x) (h1 : x ≤ 255) W => rfeed_any m (stA s m) x W (by omega) (stA_ok s m) h0 h1)
      have HPS := hide (fun (x : Int) => feed_ps (stA s m) x)
      have HTW := hide (fun (x : Int) => feed_two (stA s m) x)
      have HSN := hide (fun (x : Int) q L => @st_next s m x q L)
      obtain ⟨st, hst⟩ : ∃ st, stA s m = st := ⟨_, rfl⟩
      have HST := hide hst
      rw [hst] at HC HR HPS HTW HSN HB ⊢
      obtain ⟨tt, htt⟩ : ∃ tt, tOf st = tt := ⟨_, rfl⟩
      rw [htt] at HR ⊢
      obtain ⟨ga, gt⟩ := st
      replace HC : Hid (∀ (x : Int) (_ : 0 ≤ x) (_ : x ≤ 255) (W : World), UTabs W → Calls Tryd.prog 9 #[.agg #[.int .i64 ga, .string gt], .int .u8 x] W (FeedPost W (stV (feed (ga, gt) x).1) (feed (ga, gt) x).2)) := HC
      have HTT := hide htt
      have HTS0 := hide (show TS w (.int .i64 ga) (.string gt) (.slice none 0 0) [] wr from ⟨HB.out, OwnA.nil _ _ _, H3.out⟩)
      clear hst htt HB
      have h0k : (0 : Int) ≤ (m : Int) := by omega
      go_wp2
      obtain ⟨wo, hwo⟩ : ∃ wo : World, wo = wr := ⟨_, rfl⟩
      rw [← hwo] at HTS0 H3 ⊢
      clear hwo
      go_loopw [6] (fun i wb => ∃ j : Nat, j ≤ 256 ∧ i = .int .i64 j ∧ Hid (Below wo.heap.size wo wb)) (fun i _ => 256 - (intOf i).toNat)
      case atStart => exact ⟨0, Nat.zero_le _, rfl, hide (Below.refl _ _)⟩
      case round =>
        obtain ⟨j, hj, rfl, HJ⟩ := hrel
        by_cases hj2 : j < 256
        · obtain ⟨⟨q, L⟩, hq⟩ : ∃ r, feed (ga, gt) (j : Int) = r := ⟨_, rfl⟩
          have HCj := hide (HC.out (j : Int) (by omega) (by omega))
          have HRj := hide (HR.out (j : Int) (by omega) (by omega))
          have HPj := hide (HPS.out (j : Int))
          have HTj := hide (HTW.out (j : Int))
          rw [hq] at HCj HRj HPj HTj
          replace HRj : Hid (∀ W, Calls Tryd.prog 10 #[.string tt, .int .u8 j] W (FeedPost W (.string (tOf q)) L)) := HRj
          have hts := HTS0.out.below HJ.out
          have hc0 := hts.1.cell (i := 0) rfl
          have hc1 := hts.1.cell (i := 1) rfl
          have HTS := hide hts
          have hwj : IntKind.u8.wrap (j : Int) = (j : Int) := by simp [IntKind.wrap_u8]; omega
          clear hq hts
          go_wp2_with (first
            | (go_at_call 9; refine (HCj.out _ (HT.out.below HTS.out.2.2)).mono ?_; intro e w1 hpost; obtain ⟨g1, t1, A1, c1, rfl, hgv, hacts, hb1⟩ := feed_open hpost; have HTS1 := hide (HTS.out.below hb1); have HJ1 := hide (HJ.out.trans (hb1.mono HJ.out.size)); have HAC := hide hacts; clear hpost hgv hb1 hacts HCj)
            | (go_at_call 10; refine (HRj.out _).mono ?_; intro e w3 hpost; obtain ⟨A3, c3, rfl, hacts, hb3⟩ := rfeed_open hpost; have HACR := hide hacts; replace HAC := hide ((HAC.out.below ((Below.refl _ _).alloc (Nat.le_refl _) _)).below hb3); have HJ3 := hide ((HJ1.out.alloc HJ1.out.size _).trans (hb3.mono (Nat.le_trans HJ1.out.size (by simp)))); clear hpost hb3 hacts HRj)
            | fail)
          clear HC HR HPS HTW HSN
          go_loopw [11] (fun i wq => ∃ l : Nat, l ≤ L.length ∧ i = .int .i64 l ∧ Hid (Below w3.heap.size w3 wq)) (fun i _ => L.length - (intOf i).toNat)
          case atStart => exact ⟨0, Nat.zero_le _, rfl, hide (Below.refl _ _)⟩
          case round =>
            obtain ⟨l, hl, rfl, H4⟩ := hrel
            by_cases hjl : l < L.length
            · have hLa := HAC.out.below H4.out
              have hLb := HACR.out.below H4.out
              obtain ⟨b, o, pv, rfl, hnum, ca0, ca1, ca2, ca3⟩ := acts_at hLa (List.getElem?_eq_getElem hjl)
              obtain ⟨b', o', pv', rfl, hnum', cb0, cb1, cb2, cb3⟩ := acts_at hLb (List.getElem?_eq_getElem hjl)
              have hps := HPj.out L[l] (List.getElem_mem hjl)
              generalize L[l] = a at *
              have HLK := hide (fun W hW => like_any a.kind a.r a.fin a.ps pv pv' W (by omega) (hnum.below hW) (hnum'.below hW))
              clear hnum hnum' hps hLa hLb
              generalize a.kind = ak at *
              generalize a.r = ar at *
              generalize a.fin = af at *
              obtain ⟨n, hn⟩ : ∃ n, L.length = n := ⟨_, rfl⟩
              have hl9 : L.length ≤ 2 := HTj.out
              have HNL := hide hn
              rw [hn] at hl9 hjl hl ⊢
              clear hn
              have h0j : (0 : Int) ≤ (l : Int) := by omega
              have hjs : (l : Int) < (n : Int) := by omega
              go_wp2
              go_region_held3 (fun W => W.cell? ⟨b, o + l * 4, none⟩ = some (.int .i64 ak) ∧ W.cell? ⟨b, o + l * 4 + 1, none⟩ = some (.int .i32 ar) ∧ W.cell? ⟨b, o + l * 4 + 2, none⟩ = some pv ∧ W.cell? ⟨b, o + l * 4 + 3, none⟩ = some (.int .u8 af) ∧ W.cell? ⟨b', o' + l * 4, none⟩ = some (.int .i64 ak) ∧ W.cell? ⟨b', o' + l * 4 + 1, none⟩ = some (.int .i32 ar) ∧ W.cell? ⟨b', o' + l * 4 + 2, none⟩ = some pv' ∧ W.cell? ⟨b', o' + l * 4 + 3, none⟩ = some (.int .u8 af))
                (first | exact ⟨ca0, ca1, ca2, ca3, cb0, cb1, cb2, cb3⟩ | exact ⟨kc hb2 ca0, kc hb2 ca1, kc hb2 ca2, kc hb2 ca3, kc hb2 cb0, kc hb2 cb1, kc hb2 cb2, kc hb2 cb3⟩)
                (first | (go_at_call 11; refine (HLK.out _ ((Below.refl _ _).drew)).mono ?_; rintro e w4 ⟨rfl, hb2⟩) | fail)
              have H6 := hide (H4.out.drew.trans (hb2.mono H4.out.size))
              clear hb2
              go_wp2
              go_roundw
              case rel => exact ⟨l + 1, by have := HNL.out; omega, by go_num, H6⟩
              case measure => simp [intOf]; have := HNL.out; omega
            · obtain rfl : l = L.length := by omega
              have hl9 : L.length ≤ 2 := HTj.out
              have HJ5 := hide (HJ3.out.trans (H4.out.mono HJ3.out.size))
              go_wp2
              go_roundw
              case rel => exact ⟨j + 1, by omega, by go_num, HJ5⟩
              case measure => simp [intOf]; omega
        · obtain rfl : j = 256 := by omega
          have hts := HTS0.out.below HJ.out
          have hc0 := hts.1.cell (i := 0) rfl
          have hc1 := hts.1.cell (i := 1) rfl
          have hf0 := hts.1.frozen 0
          have hf1 := hts.1.frozen 1
          have HTS := hide hts
          by_cases hm : m < s.size
          · have hsk := get_nat s m hm
            obtain ⟨x, hx⟩ : ∃ x : Int, ((s.get! m).toNat : Int) = x := ⟨_, rfl⟩
            rw [hx] at hsk
            have h8 := (s.get! m).toNat_lt
            have HX := hide hx
            obtain ⟨⟨q, L⟩, hq⟩ : ∃ r, feed (ga, gt) x = r := ⟨_, rfl⟩
            have HCj := hide (HC.out x (by omega) (by omega))
            have HRj := hide (HR.out x (by omega) (by omega))
            have HSj := hide (HSN.out x q L hx hq)
            rw [hq] at HCj HRj
            replace HRj : Hid (∀ W, Calls Tryd.prog 10 #[.string tt, .int .u8 x] W (FeedPost W (.string (tOf q)) L)) := HRj
            clear hq hts hx h8 HC HR HPS HTW HSN
            have hks : (m : Int) < (s.size : Int) := by omega
            go_wp2
            go_region_with (first | (go_at_call 9; refine (HCj.out _ (HT.out.below HTS.out.2.2.drew)).mono ?_; intro e w1 hpost; obtain ⟨g1, t1, A1, c1, rfl, hgv, hacts, hb1⟩ := feed_open hpost; have HTS1 := hide ((show TS w (.int .i64 ga) (.string gt) (.slice none 0 0) [] wr.drew from ⟨HTS.out.1, HTS.out.2.1, HTS.out.2.2.drew⟩).below hb1); have p0 := HTS1.out.1.cell (i := 0) rfl; have p1 := HTS1.out.1.cell (i := 1) rfl; have p2 := HTS1.out.1.frozen 0; have p3 := HTS1.out.1.frozen 1; have HGV := hide hgv; clear hpost hb1 hgv hacts) | fail)
            all_goals
              have HB2 := hide (blk_set2 HTS1.out.1 (.int .i64 g1) (.string t1))
              have HW2 := hide ((HTS1.out.2.2.setCell (p := ⟨w.heap.size, 0, none⟩) (Nat.le_refl _) (.int .i64 g1)).setCell (p := ⟨w.heap.size, 1, none⟩) (Nat.le_refl _) (.string t1))
              clear p0 p1 p2 p3
              go_wp2_with fail
              refine (HRj.out _).mono ?_
              intro e w3 hpost
              obtain ⟨A3, c3, rfl, hacts, hb3⟩ := rfeed_open hpost
              have HB5 := hide (HB2.out.below hb3)
              have HW5 := hide (HW2.out.trans (hb3.mono HW2.out.size))
              clear hpost hb3 hacts HRj
              go_wp2
              go_roundw
              case rel =>
                refine ⟨m + 1, m + 1, by omega, hide (by omega), by go_num, by rw [HSj.out.1], hide ?_, HW5⟩
                rw [HSj.out.1, st_cells HGV.out]; exact HB5.out
              case measure => simp [intOf]; omega
          · obtain rfl : m = s.size := by omega
            have HB5 := hide hts.1
            have HW5 := hide hts.2.2
            clear hts HC HR HPS HTW HSN hc0 hc1 hf0 hf1
            go_wp2
            go_roundw
            case rel =>
              refine ⟨s.size + 1, s.size, by omega, hide (by omega), by go_num, ?_, hide ?_, HW5⟩
              · rw [HST.out, HTT.out]
              · rw [HST.out]; exact HB5.out
            case measure => simp [intOf]
    · obtain rfl : k = s.size + 1 := by omega
      go_wp2_with (first | (go_at_call 8; refine (asked_any _ (HT.out.below H3.out)).mono ?_; rintro e w1 ⟨rfl, hb1⟩) | fail)
      go_ret
      exact ⟨rfl, H3.out.trans (hb1.mono H3.out.size)⟩
end Go.Proofs.YtmheleifjpfciaaDoor
