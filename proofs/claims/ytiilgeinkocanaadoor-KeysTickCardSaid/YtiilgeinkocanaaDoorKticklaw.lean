/- The walk of KeysTick. -/
import Derived.Test.YtiilgeinkocanaaDoorKpressed
namespace Go.Proofs.YtiilgeinkocanaaDoor
open Go.RowKit

theorem told_start (s : ByteArray) : toldK s true = (runK startK s.data.toList).2 ++ (tickK (runK startK s.data.toList).1).2 := by unfold toldK; simp
set_option maxRecDepth 100000 in
set_option maxHeartbeats 4000000 in
theorem keysTick_walk (s b : ByteArray) (w : World) (hs : s.size ≤ 9223372036854775807) (hb : b.size ≤ 9223372036854775807) (hU : UTabs w) (hT : WTabs w) : Calls Tryd.prog 8 #[.string s, .string b] w fun e w' => e = .returned (.bool true) ∧ Below w.heap.size w w' := by
  have HP := hide (fun W (hW : Below w.heap.size w W) => pressed_any W (hU.below hW) (hT.below hW))
  have HU := hide (fun W (hW : Below w.heap.size w W) => UTabs.below hU hW)
  have HT := hide (fun W (hW : Below w.heap.size w W) => WTabs.below hT hW)
  have HSF := hide (fun F (hF : AllGe w.heap.size F) => hF.safe hU hT (Nat.le_refl _))
  clear hU hT
  by_cases h1 : 300 < s.size
  · have h1' : (300 : Int) < (s.size : Int) := by omega
    go_enter Tryd.func8, Tryd.ntmps8
    go_wp2_with fail
    refine (HP.out _ (Below.refl _ _)).mono ?_
    rintro e w1 ⟨rfl, hb1⟩
    have HB1 := hide hb1
    clear hb1
    go_wp2_with fail
    go_ret
    exact ⟨rfl, HB1.out⟩
  by_cases h2 : 300 < b.size
  · have h2' : (300 : Int) < (b.size : Int) := by omega
    go_enter Tryd.func8, Tryd.ntmps8
    go_wp2_with fail
    refine (HP.out _ (Below.refl _ _)).mono ?_
    rintro e w1 ⟨rfl, hb1⟩
    have HB1 := hide hb1
    clear hb1
    go_wp2_with fail
    go_ret
    exact ⟨rfl, HB1.out⟩
  go_enter Tryd.func8, Tryd.ntmps8
  go_wp2_with fail
  refine (new_any w).mono ?_
  rintro e w1 ⟨rfl, rfl⟩
  go_wp2_with fail
  go_loopw [6] (fun i wr => ∃ k : Nat, i = .int .i64 k ∧ k ≤ s.size ∧ Hid (TS w.heap.size w w.heap.size (runK startK (s.data.toList.take k)).1 (.slice none 0 0) [] wr)) (fun i _ => s.size - (intOf i).toNat)
  case atStart => exact ⟨0, rfl, by omega, hide (TS.start w)⟩
  case round =>
    obtain ⟨k, rfl, hk, H⟩ := hrel
    by_cases hlt : k < s.size
    · have HRT := hide (run_take hlt startK)
      have HSZ := hide (show (runK startK (s.data.toList.take k)).1.2.size ≤ 400000 by have := run_size startK (s.data.toList.take k); rw [List.length_take] at this; have e : startK.2.size = 0 := rfl; omega)
      obtain ⟨st, hst⟩ : ∃ st, (runK startK (s.data.toList.take k)).1 = st := ⟨_, rfl⟩
      rw [hst] at HRT H HSZ
      clear hst
      obtain ⟨F, hdec, hge⟩ := H.out.dec
      have HDEC := hide hdec
      have HGE := hide hge
      have hB : w.heap.size ≤ wr.heap.size := H.out.low.size
      have hb0 := (s[k]).toNat_lt
      have HFD := hide (feed_any w.heap.size F st (s[k].toNat : Int) wr (HU.out _ H.out.low) (HT.out _ H.out.low) (by omega) (by omega) (HSF.out F hge) (by have := HSZ.out; omega) hdec)
      clear hdec hge hb0
      go_wp2_with fail
      refine HFD.out.mono ?_
      rintro e w2 ⟨u, rfl, ho, hnl, hF, hx⟩
      have HTS := hide (H.out.quiet hB HDEC.out HGE.out hF hx)
      clear ho hnl hF hx
      go_wp2_with fail
      go_roundw
      case rel => exact ⟨k + 1, by go_num, by omega, hide (by rw [HRT.out]; exact HTS.out)⟩
      case measure => simp [intOf]; omega
    · obtain rfl : k = s.size := by omega
      rw [run_all] at H
      have HW := hide (tick_waits (runK startK s.data.toList).1)
      obtain ⟨st, hst⟩ : ∃ st, (runK startK s.data.toList).1 = st := ⟨_, rfl⟩
      rw [hst] at H HW
      clear hst
      obtain ⟨F, hdec, hge⟩ := H.out.dec
      have HDEC := hide hdec
      have HGE := hide hge
      have hB : w.heap.size ≤ wr.heap.size := H.out.low.size
      have HFD := hide (tick_any w.heap.size F st wr hdec)
      clear hdec hge
      go_wp2_with fail
      refine HFD.out.mono ?_
      rintro e w2 ⟨u, rfl, ho, hnl, hF, hx⟩
      have HTS := hide (H.out.quiet hB HDEC.out HGE.out hF hx)
      clear ho hnl hF hx
      obtain ⟨F2, hdec2, hge2⟩ := HTS.out.dec
      have HDEC2 := hide hdec2
      have HGE2 := hide hge2
      clear hdec2 hge2
      have hB2 : w.heap.size ≤ w2.heap.size := HTS.out.low.size
      rcases HW.out with hp | hp
      · have HWK := hide (show waitsK (tickK st).1 = true by unfold waitsK; rw [hp]; rfl)
        have HTA := hide (tick_again (tickK st).1 hp)
        clear hp
        go_wp2_with fail
        refine (waiting_any _ F2 _ _ HDEC2.out).mono ?_
        rintro e w3 ⟨rfl, hw3⟩
        rw [HWK.out]
        subst hw3
        go_wp2_with fail
        refine (tick_any w.heap.size F2 (tickK st).1 w2 HDEC2.out).mono ?_
        rintro e w4 ⟨u4, rfl, ho, hnl, hF, hx⟩
        have hu4 := hnl (by rw [HTA.out])
        subst hu4
        have HTS4 := hide (HTS.out.quiet hB2 HDEC2.out HGE2.out hF hx)
        clear ho hnl hF hx
        go_wp2_with fail
        refine (HP.out _ HTS4.out.low).mono ?_
        rintro e w5 ⟨rfl, hb5⟩
        have HB5 := hide (HTS4.out.low.trans (hb5.mono HTS4.out.low.size))
        clear hb5
        go_wp2_with fail
        go_ret
        exact ⟨rfl, HB5.out⟩
      · have HWK := hide (show waitsK (tickK st).1 = false by rw [hp]; rfl)
        rw [hp] at HTS
        clear hp
        go_wp2_with fail
        refine (waiting_any _ F2 _ _ HDEC2.out).mono ?_
        rintro e w3 ⟨rfl, hw3⟩
        rw [HWK.out]
        subst hw3
        clear HDEC2 HGE2 HWK HW HDEC HGE HFD H
        go_wp2_with fail
        go_loopw [7, 8] (fun v i wr => ∃ (k : Nat) (A : Option Addr) (n c : Nat), v = .slice A n c ∧ i = .int .i64 k ∧ k ≤ b.size ∧ n ≤ 2 * k ∧ Hid (TS w.heap.size w w.heap.size (runK startK (b.data.toList.take k)).1 (.slice A n c) (runK startK (b.data.toList.take k)).2 wr) ∧ Hid (n = (runK startK (b.data.toList.take k)).2.length) ∧ Hid ((runK startK (b.data.toList.take k)).2 = [] → (.slice A n c : Value) = .slice none 0 0)) (fun _ i _ => b.size - (intOf i).toNat)
        case atStart => exact ⟨0, none, 0, 0, rfl, rfl, by omega, by omega, HTS, hide (by simp [runK]), hide (fun _ => rfl)⟩
        case round =>
          obtain ⟨k, A, n, c, rfl, rfl, hk, hn, H, HN, HE⟩ := hrel
          by_cases hlt : k < b.size
          · have HRT := hide (run_take hlt startK)
            have HSZ := hide (show (runK startK (b.data.toList.take k)).1.2.size ≤ 400000 by have := run_size startK (b.data.toList.take k); rw [List.length_take] at this; have e : startK.2.size = 0 := rfl; omega)
            obtain ⟨st, hst⟩ : ∃ st, (runK startK (b.data.toList.take k)).1 = st := ⟨_, rfl⟩
            obtain ⟨L, hL⟩ : ∃ L, (runK startK (b.data.toList.take k)).2 = L := ⟨_, rfl⟩
            rw [hst, hL] at HRT H
            rw [hst] at HSZ
            rw [hL] at HN HE
            clear hst hL
            obtain ⟨F, hdec, hge⟩ := H.out.dec
            have HDEC := hide hdec
            have HGE := hide hge
            have hB : w.heap.size ≤ wr.heap.size := H.out.low.size
            have hb0 := (b[k]).toNat_lt
            have HFD := hide (feed_any w.heap.size F st (b[k].toNat : Int) wr (HU.out _ H.out.low) (HT.out _ H.out.low) (by omega) (by omega) (HSF.out F hge) (by have := HSZ.out; omega) hdec)
            have HFK := hide (feed_keys st (b[k].toNat : Int))
            clear hdec hge hb0
            go_wp2_with fail
            refine HFD.out.mono ?_
            rintro e w2 ⟨u, rfl, ho, hnl, hF, hx⟩
            have HKU := hide (ho.keys hnl)
            have HF := hide hF
            have HX := hide hx
            have HO1 := hide (H.out.own.stays hx (HDEC.out.off H.out.own))
            have hB2 : w.heap.size ≤ w2.heap.size := Nat.le_trans hB hx.size
            clear ho hnl hF hx
            go_wp2_with (at_builtin; refine wpList_keys w2 rfl (.tmp 47) (.tmp 52) rfl w.heap.size hB2 _ _ _ _ rfl rfl HO1.out HKU.out (by have := HN.out; have := HFK.out; omega) ?_; intro v2 w3 hown hg hb2 hnil; have HTS := hide (H.out.step hB HDEC.out HGE.out HF.out HX.out hown hg); obtain ⟨A2, c2, hv2⟩ := hown.form; obtain ⟨m2, hm2⟩ : ∃ m, (L ++ (feedK st (b[k].toNat : Int)).2).length = m := ⟨_, rfl⟩; rw [hm2] at hv2; subst hv2; have HM2 := hide hm2; have HNIL := hide (show (.slice A2 m2 c2 : Value) = .slice none 0 0 ↔ (.slice A n c : Value) = .slice none 0 0 ∧ (feedK st (b[k].toNat : Int)).2 = [] from hnil); clear hown hg hb2 hnil hm2)
            go_roundw
            case rel => exact ⟨k + 1, A2, m2, c2, rfl, by go_num, by omega, by rw [← HM2.out, List.length_append]; have := HN.out; have := HFK.out; omega, hide (by rw [HRT.out]; exact HTS.out), hide (by rw [HRT.out]; exact HM2.out.symm), hide (by
              rw [HRT.out]
              intro e
              have e := List.append_eq_nil_iff.1 e
              exact HNIL.out.2 ⟨HE.out e.1, e.2⟩)⟩
            case measure => simp [intOf]; omega
          · obtain rfl : k = b.size := by omega
            rw [run_all] at H HN HE
            have HEQ := hide (told_start b)
            obtain ⟨st, hst⟩ : ∃ st, (runK startK b.data.toList).1 = st := ⟨_, rfl⟩
            obtain ⟨L, hL⟩ : ∃ L, (runK startK b.data.toList).2 = L := ⟨_, rfl⟩
            rw [hst, hL] at HEQ H
            rw [hL] at HN HE
            clear hst hL
            obtain ⟨F, hdec, hge⟩ := H.out.dec
            have HDEC := hide hdec
            have HGE := hide hge
            have hB : w.heap.size ≤ wr.heap.size := H.out.low.size
            have HFD := hide (tick_any w.heap.size F st wr hdec)
            have HFK := hide (tick_keys st)
            clear hdec hge
            go_wp2_with fail
            refine HFD.out.mono ?_
            rintro e w2 ⟨u, rfl, ho, hnl, hF, hx⟩
            have HKU := hide (ho.keys hnl)
            have HF := hide hF
            have HX := hide hx
            have HO1 := hide (H.out.own.stays hx (HDEC.out.off H.out.own))
            have hB2 : w.heap.size ≤ w2.heap.size := Nat.le_trans hB hx.size
            clear ho hnl hF hx
            go_wp2_with (at_builtin; refine wpList_keys w2 rfl (.tmp 54) (.tmp 56) rfl w.heap.size hB2 _ _ _ _ rfl rfl HO1.out HKU.out (by have := HN.out; have := HFK.out; omega) ?_; intro v2 w3 hown hg hb2 hnil; have HTS := hide (H.out.step hB HDEC.out HGE.out HF.out HX.out hown hg); have HKV := hide (hown.keys (fun e => by have e := List.append_eq_nil_iff.1 e; exact hnil.2 ⟨HE.out e.1, e.2⟩)); clear hown hg hb2 hnil)
            rw [← HEQ.out] at HKV
            refine (told_any b true _ (HU.out _ HTS.out.low) (HT.out _ HTS.out.low) (by omega)).mono ?_
            rintro e w4 ⟨v4, rfl, ho4, hn4, hb4⟩
            have HK4 := hide (ho4.keys hn4)
            have HKV4 := hide (HKV.out.below hb4)
            have HB4 := hide (HTS.out.low.trans (hb4.mono HTS.out.low.size))
            have HLEN := hide (told_len b true)
            clear ho4 hn4 hb4
            go_wp2_with fail
            refine (same_any v2 v4 _ _ _ HKV4.out HK4.out (by have := HLEN.out; omega) (by have := HLEN.out; omega)).mono ?_
            rintro e w5 ⟨rfl, hb5⟩
            rw [decide_eq_true rfl]
            have HB5 := hide (HB4.out.trans (hb5.mono HB4.out.size))
            clear hb5
            go_wp2_with fail
            refine (HP.out _ HB5.out).mono ?_
            rintro e w6 ⟨rfl, hb6⟩
            have HB6 := hide (HB5.out.trans (hb6.mono HB5.out.size))
            clear hb6
            go_wp2_with fail
            go_ret
            exact ⟨rfl, HB6.out⟩
end Go.Proofs.YtiilgeinkocanaaDoor
