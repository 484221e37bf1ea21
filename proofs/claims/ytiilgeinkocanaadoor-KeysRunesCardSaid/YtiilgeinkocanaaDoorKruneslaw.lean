/- The walk of KeysRunes. -/
import Derived.Test.YtiilgeinkocanaaDoorKpressed
import Derived.Test.YtiilgeinkocanaaDoorKput
namespace Go.Proofs.YtiilgeinkocanaaDoor
open Go.RowKit

/-- The runes of a slice, in their cells. -/
def runeCell (r : Int) : List Value := [.int .i32 r]
theorem runes_at {w : World} {A : Option Addr} {L : List Int} {j : Nat} {r : Int} (h : RowOf w 1 runeCell A L) (hj : L[j]? = some r) : ∃ b o, A = some ⟨b, o, none⟩ ∧ w.cell? ⟨b, o + j, none⟩ = some (.int .i32 r) := by
  obtain ⟨b, o, e, -, hc⟩ := h _ _ hj
  have := hc 0 _ rfl
  rw [Nat.mul_one, Nat.add_zero] at this
  exact ⟨b, o, e, this⟩
theorem put_none {r : Int} (h : ¬ ((0 ≤ r ∧ r < 55296) ∨ (57344 ≤ r ∧ r ≤ 1114111))) : putS r = ⟨#[]⟩ := by
  unfold putS
  rw [if_neg]
  intro hv
  apply h
  simp only [Utf8.valid, Bool.or_eq_true, Bool.and_eq_true, decide_eq_true_eq] at hv
  omega
theorem rune_state {s : ByteArray} {r : Int} {st : KS} (k : Nat) (hk : k < s.size) (h0 : ∀ k, k < s.size → 1 ≤ k → runK startK (s.data.toList.take k) = ((false, s.extract 0 k), [])) (h1 : runK startK s.data.toList = (startK, kLet 1 r)) (hst : (runK startK (s.data.toList.take k)).1 = st) :
    (k + 1 < s.size → feedK st (s[k].toNat : Int) = ((false, s.extract 0 (k + 1)), [])) ∧ (k + 1 = s.size → feedK st (s[k].toNat : Int) = (startK, kLet 1 r)) := by
  have hrt := run_take hk startK
  have hL : (runK startK (s.data.toList.take k)).2 = [] := by
    by_cases hk0 : k = 0
    · subst hk0; rfl
    · rw [h0 k hk (by omega)]
  rw [hst, hL, List.nil_append] at hrt
  constructor
  · intro h
    rw [h0 (k + 1) h (by omega)] at hrt
    exact (Prod.ext (congrArg Prod.fst hrt).symm (congrArg Prod.snd hrt).symm)
  · intro h
    rw [h, run_all, h1] at hrt
    exact (Prod.ext (congrArg Prod.fst hrt).symm (congrArg Prod.snd hrt).symm)
set_option maxRecDepth 100000 in
set_option maxHeartbeats 4000000 in
theorem keysRunes_walk (A : Option Addr) (c : Nat) (L : List Int) (w : World) (hL : L.length ≤ 9223372036854775807) (hr : RowOf w 1 runeCell A L) (hU : UTabs w) (hT : WTabs w) : Calls Tryd.prog 7 #[.slice A L.length c] w fun e w' => e = .returned (.bool true) ∧ Below w.heap.size w w' := by
  have HP := hide (fun W (hW : Below w.heap.size w W) => pressed_any W (hU.below hW) (hT.below hW))
  have HU := hide (fun W (hW : Below w.heap.size w W) => UTabs.below hU hW)
  have HT := hide (fun W (hW : Below w.heap.size w W) => WTabs.below hT hW)
  have HSF := hide (fun F (hF : AllGe w.heap.size F) => hF.safe hU hT (Nat.le_refl _))
  have HR := hide hr
  clear hU hT hr
  obtain ⟨n, hn⟩ : ∃ n, L.length = n := ⟨_, rfl⟩
  have HN := hide hn
  rw [hn] at hL ⊢
  clear hn
  by_cases h1 : 100 < n
  · have h1' : (100 : Int) < (n : Int) := by omega
    go_enter Tryd.func7, Tryd.ntmps7
    go_wp2_with fail
    refine (HP.out _ (Below.refl _ _)).mono ?_
    rintro e w1 ⟨rfl, hb1⟩
    have HB1 := hide hb1
    clear hb1
    go_wp2_with fail
    go_ret
    exact ⟨rfl, HB1.out⟩
  go_enter Tryd.func7, Tryd.ntmps7
  go_wp2_with fail
  refine (new_any w).mono ?_
  rintro e w1 ⟨rfl, rfl⟩
  go_wp2_with fail
  go_loopw [4] (fun i wr => ∃ j : Nat, i = .int .i64 j ∧ j ≤ n ∧ Hid (TS w.heap.size w w.heap.size startK (.slice none 0 0) [] wr)) (fun i _ => n - (intOf i).toNat)
  case atStart => exact ⟨0, rfl, by omega, hide (TS.start w)⟩
  case round =>
    obtain ⟨j, rfl, hj, H⟩ := hrel
    by_cases hlt : j < n
    · obtain ⟨r, hr⟩ : ∃ r, L[j]? = some r := ⟨_, List.getElem?_eq_getElem (by rw [HN.out]; exact hlt)⟩
      obtain ⟨b, o, rfl, c0⟩ := runes_at (HR.out.below H.out.low) hr
      have HRC := hide (fun W (hW : Below w.heap.size w W) => (show W.cell? ⟨b, o + j, none⟩ = some (.int .i32 r) from by
        obtain ⟨b2, o2, e, hc⟩ := runes_at (HR.out.below hW) hr
        injection e with e; injection e with e1 e2
        rw [e1, e2]; exact hc))
      clear hr
      have HPUT := hide (fun W => cput_any r W)
      by_cases hv : (0 ≤ r ∧ r < 55296) ∨ (57344 ≤ r ∧ r ≤ 1114111)
      case neg =>
        rw [put_none hv] at HPUT
        clear hv
        go_wp2_with fail
        refine (HPUT.out _).mono ?_
        rintro e w2 ⟨rfl, hw2⟩
        subst hw2
        go_wp2_with fail
        go_roundw
        case rel => exact ⟨j + 1, by go_num, by omega, H⟩
        case measure => simp [intOf]; omega
      have hpz : 1 ≤ (putS r).size := (decode_alone hv).2.1
      have hkeys := fun h32 h127 => rune_keys hv h32 h127
      obtain ⟨s, hs⟩ : ∃ s, putS r = s := ⟨_, rfl⟩
      rw [hs] at HPUT hpz hkeys
      clear hs
      have e1 : s.toList.isEmpty = false := empty_tl false (decide_eq_false (by omega))
      by_cases h32 : r < 32
      · clear hkeys hv
        go_wp2_with fail
        refine (HPUT.out _).mono ?_
        rintro e w2 ⟨rfl, hw2⟩
        subst hw2
        go_wp2_with fail
        go_roundw
        case rel => exact ⟨j + 1, by go_num, by omega, H⟩
        case measure => simp [intOf]; omega
      by_cases h127 : r = 127
      · clear hkeys hv
        have b127 : (r == 127) = true := by simpa using h127
        clear h127
        go_wp2_with fail
        refine (HPUT.out _).mono ?_
        rintro e w2 ⟨rfl, hw2⟩
        subst hw2
        go_wp2_with fail
        go_roundw
        case rel => exact ⟨j + 1, by go_num, by omega, H⟩
        case measure => simp [intOf]; omega
      obtain ⟨k0, k1, -, k4⟩ := hkeys (by omega) h127
      have b127 : (r == 127) = false := by simpa using h127
      have HST := hide (fun k hk (st : KS) => rune_state (s := s) (r := r) (st := st) k hk k0 k1)
      have HK1 := hide k1
      have HK0 := hide k0
      clear hkeys k0 k1 h127 hv
      go_wp2_with fail
      refine (HPUT.out _).mono ?_
      rintro e w2 ⟨rfl, hw2⟩
      subst hw2
      go_wp2_with fail
      go_loopw [6] (fun i wq => ∃ k : Nat, i = .int .i64 k ∧ k ≤ s.size ∧ Hid (TS w.heap.size w w.heap.size (runK startK (s.data.toList.take k)).1 (.slice none 0 0) [] wq)) (fun i _ => s.size - (intOf i).toNat)
      case atStart => exact ⟨0, rfl, by omega, H⟩
      case round =>
        obtain ⟨k, rfl, hk, H2⟩ := hrel
        by_cases hks : k < s.size
        · have hst2 := HST.out k hks
          have HRT := hide (run_take hks startK)
          have HSZ := hide (show (runK startK (s.data.toList.take k)).1.2.size ≤ 400000 by have := run_size startK (s.data.toList.take k); rw [List.length_take] at this; have e : startK.2.size = 0 := rfl; omega)
          obtain ⟨st, hst⟩ : ∃ st, (runK startK (s.data.toList.take k)).1 = st := ⟨_, rfl⟩
          have hs2 := hst2 st hst
          rw [hst] at HRT H2 HSZ
          clear hst hst2
          obtain ⟨F, hdec, hge⟩ := H2.out.dec
          have HDEC := hide hdec
          have HGE := hide hge
          have hB : w.heap.size ≤ wr.heap.size := H2.out.low.size
          have hb0 := (s[k]).toNat_lt
          have HFD := hide (feed_any w.heap.size F st (s[k].toNat : Int) wr (HU.out _ H2.out.low) (HT.out _ H2.out.low) (by omega) (by omega) (HSF.out F hge) (by have := HSZ.out; omega) hdec)
          clear hdec hge hb0
          by_cases hend : k + 1 = s.size
          · have HF2 := hide (hs2.2 hend)
            rw [HF2.out] at HFD HRT
            have m1 : ¬ (k : Int) < (s.size : Int) - 1 := by omega
            have m2 : ((k : Int) == (s.size : Int) - 1) = true := by simp; omega
            have m3 : (s.size : Int) - 1 = (k : Int) := by omega
            clear hs2
            go_wp2_with fail
            refine HFD.out.mono ?_
            rintro e w3 ⟨u, rfl, ho, hnl, hF, hx⟩
            have HKU := hide (ho.keys hnl)
            have HTS := hide (H2.out.quiet hB HDEC.out HGE.out hF hx)
            have cc := HRC.out _ HTS.out.low
            have hA3 := (Below.refl w3.heap.size w3).alloc (Nat.le_refl _) (.cells #[.int .i64 1, .int .i32 r, .string ⟨#[]⟩] 26)
            have HKU3 := hide (HKU.out.below hA3)
            have HLIT := hide (lit_keys w3 [⟨1, r, ⟨#[]⟩⟩] (by simp))
            have HTS3 := hide (HTS.out.below HTS.out.low.size hA3)
            clear ho hnl hF hx hA3
            go_wp2_with fail
            refine (same_any u _ _ [⟨1, r, ⟨#[]⟩⟩] _ HKU3.out HLIT.out (by simp [kLet]) (by simp)).mono ?_
            rintro e w4 ⟨rfl, hb4⟩
            rw [decide_eq_true (show kLet 1 r = [⟨1, r, ⟨#[]⟩⟩] from rfl)]
            have HTS4 := hide (HTS3.out.below HTS3.out.low.size hb4)
            clear hb4
            go_wp2_with fail
            go_roundw
            case rel => exact ⟨k + 1, by go_num, by omega, hide (by rw [HRT.out]; exact HTS4.out)⟩
            case measure => simp [intOf]; omega
          · have HF2 := hide (hs2.1 (by omega))
            rw [HF2.out] at HFD HRT
            have HWK := hide (show waitsK (false, s.extract 0 (k + 1)) = true by unfold waitsK; simp; omega)
            have m1 : (k : Int) < (s.size : Int) - 1 := by omega
            have m2 : ((k : Int) == (s.size : Int) - 1) = false := by simp; omega
            clear hs2
            go_wp2_with fail
            refine HFD.out.mono ?_
            rintro e w3 ⟨u, rfl, ho, hnl, hF, hx⟩
            have hu := hnl rfl
            subst hu
            have HTS := hide (H2.out.quiet hB HDEC.out HGE.out hF hx)
            obtain ⟨F3, hdec3, -⟩ := HTS.out.dec
            have HDEC3 := hide hdec3
            clear ho hnl hF hx hdec3
            go_wp2_with fail
            refine (waiting_any _ F3 _ _ HDEC3.out).mono ?_
            rintro e w4 ⟨rfl, hw4⟩
            rw [HWK.out]
            subst hw4
            go_wp2_with fail
            go_roundw
            case rel => exact ⟨k + 1, by go_num, by omega, hide (by rw [HRT.out]; exact HTS.out)⟩
            case measure => simp [intOf]; omega
        · obtain rfl : k = s.size := by omega
          rw [run_all, HK1.out] at H2
          obtain ⟨F3, hdec3, -⟩ := H2.out.dec
          have HDEC3 := hide hdec3
          clear hdec3
          go_wp2_with fail
          refine (waiting_any _ F3 _ _ HDEC3.out).mono ?_
          rintro e w4 ⟨rfl, hw4⟩
          rw [show waitsK startK = false from rfl]
          subst hw4
          go_wp2_with fail
          go_roundw
          case rel => exact ⟨j + 1, by go_num, by omega, H2⟩
          case measure => simp [intOf]; omega
    · go_wp2_with fail
      refine (HP.out _ H.out.low).mono ?_
      rintro e w6 ⟨rfl, hb6⟩
      have HB6 := hide (H.out.low.trans (hb6.mono H.out.low.size))
      clear hb6
      go_wp2_with fail
      go_ret
      exact ⟨rfl, HB6.out⟩
end Go.Proofs.YtiilgeinkocanaaDoor
