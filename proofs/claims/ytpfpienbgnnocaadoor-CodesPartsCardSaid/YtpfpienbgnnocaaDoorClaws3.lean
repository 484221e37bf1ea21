/- The walk of CodesParts. -/
import Derived.Test.YtpfpienbgnnocaaDoorClaws2
namespace Go.Proofs.YtpfpienbgnnocaaDoor
open Go.RowKit

/-- Where the part behind the first m begins. -/
def bnd (s : ByteArray) (L : List Nat) : Nat → Nat
  | 0 => 0
  | j + 1 => L[j]?.getD 0 + (Utf8.decode s (L[j]?.getD 0)).2
theorem mem_getD {L : List Nat} {j : Nat} (h : j < L.length) : L[j]?.getD 0 ∈ L := by
  rw [List.getElem?_eq_getElem h]; exact List.getElem_mem h
theorem bnd_at (s : ByteArray) : ∀ m, m < (starts s).length → bnd s (starts s) m = (starts s)[m]?.getD 0
  | 0, h => (starts_head (by
      have := starts_len s; omega)).symm
  | j + 1, h => (starts_next s s.size 0 j h).symm
theorem bnd_end (s : ByteArray) : bnd s (starts s) (starts s).length = s.size := by
  by_cases h : 0 < s.size
  · obtain ⟨_, hw, hl, _⟩ := lastS_spec h
    obtain ⟨q, hq⟩ : ∃ q, (starts s).length = q + 1 := ⟨(starts s).length - 1, by omega⟩
    rw [lastS, hq, Nat.add_sub_cancel] at hw
    rw [hq]; exact hw
  · have := starts_len s
    rw [show (starts s).length = 0 by omega, show s.size = 0 by omega]; rfl
theorem back_bnd (s : ByteArray) (j : Nat) (h : j < (starts s).length) : (backR s (bnd s (starts s) (j + 1) : Nat)).2.1 = ((Utf8.decode s ((starts s)[j]?.getD 0)).2 : Int) := by
  have hm := mem_getD h
  have hl := starts_lt s s.size 0 _ hm
  have hd := dec_in s _ hl.2
  have hb := back_at hm
  simp only [bnd]
  generalize (starts s)[j]?.getD 0 = x at *
  rw [backR, if_pos (by omega)]
  simp only [Int.toNat_natCast]
  rw [last_eq (by rw [prefix_size (by omega)]; omega)] at hb
  show ((Utf8.decode _ _).2 : Int) = _
  rw [hb]

set_option maxHeartbeats 1000000 in
set_option maxRecDepth 100000 in
/-- **limnerlaw01.CodesParts answers true.** -/
theorem lawParts (s : ByteArray) (w : World) (hz : s.size ≤ 9223372036854775807) (hU : UTabs w) :
    Calls Tryd.prog 7 #[.string s] w fun e w' => e = .returned (.bool true) ∧ Below w.heap.size w w' := by
  have HU := hide hU
  clear hU
  by_cases h : s.size ≤ 1000
  · have HS := hide (show s.size ≤ 1048576 by omega)
    go_enter Tryd.func7, Tryd.ntmps7
    go_wp2_with (go_at_call 16; refine (cstarts_any s _ HS.out).mono ?_; rintro e w1 ⟨A, c, rfl, hown, hb1⟩)
    have hlen := starts_len s
    have HN := hide (NatsAt.of_own hown)
    have HLT := hide (show ∀ j, j < (starts s).length → (starts s)[j]?.getD 0 < s.size from fun j hj => (starts_lt s s.size 0 _ (mem_getD hj)).2)
    have HAT := hide (bnd_at s)
    have HEND := hide (bnd_end s)
    have HBK := hide (back_bnd s)
    generalize starts s = L at *
    clear hown
    go_loopw [4, 5] (fun a i wr => ∃ (k x : Nat), k ≤ L.length ∧ x ≤ s.size ∧ a = .int .i64 x ∧ i = .int .i64 k ∧ Hid (x = bnd s L k) ∧ Hid (NatsAt A L wr) ∧ Below w.heap.size w wr) (fun _ i _ => L.length - (intOf i).toNat)
    case atStart => exact ⟨0, 0, by omega, by omega, rfl, rfl, rfl, HN, hb1⟩
    case round =>
      obtain ⟨k, x, hk, hxs, rfl, rfl, HX, HNr, hB⟩ := hrel
      have HB := hide hB
      clear hB
      by_cases hlt : k < L.length
      · obtain ⟨g, rfl, hc⟩ := HNr.out k hlt
        have hx := HX.out
        rw [HAT.out k hlt] at hx
        have hxl : x < s.size := by rw [hx]; exact HLT.out k hlt
        rw [← hx] at hc
        have hd := dec_in s x hxl
        have HX' := hide (show x + (Utf8.decode s x).2 = bnd s L (k + 1) by simp only [bnd]; rw [← hx])
        clear hx HX
        go_wp2_with (go_at_call 10; refine (next_any s x _ HS.out hxl (HU.out.below HB.out)).mono ?_; rintro e w2 ⟨rfl, hb2⟩; have HB2 := hide (HB.out.trans (hb2.mono HB.out.size)); have HN2 := hide (HNr.out.below hb2); have hc2 := (hb2.cell (p := ⟨g, k, none⟩) (World.block_lt_of_cell? _ _ hc)).trans hc; clear hb2)
        go_roundw
        case rel => exact ⟨k + 1, x + (Utf8.decode s x).2, by omega, by omega, by go_num, by go_num, HX'.out, HN2, HB2.out⟩
        case measure => simp [intOf]; omega
      · have hkl : k = L.length := by omega
        have hxe : x = s.size := by rw [HX.out, hkl, HEND.out]
        subst hxe
        clear HX hkl hxs
        go_wp2
        go_loopw [4, 9] (fun a i wr => ∃ (m x : Nat) (z : Int), m ≤ L.length ∧ x ≤ s.size ∧ z + 1 = m ∧ a = .int .i64 x ∧ i = .int .i64 z ∧ Hid (x = bnd s L m) ∧ Hid (NatsAt A L wr) ∧ Below w.heap.size w wr) (fun _ i _ => (intOf i + 1).toNat)
        case atStart => exact ⟨L.length, s.size, L.length - 1, by omega, by omega, by omega, rfl, by go_num, HEND.out.symm, HNr, HB.out⟩
        case round =>
          obtain ⟨m, x, z, hm, hxs, hzm, rfl, rfl, HX, HNs, hB⟩ := hrel
          have HC := hide hB
          clear hB
          by_cases hz0 : 0 ≤ z
          · obtain ⟨j, rfl⟩ := Int.eq_ofNat_of_zero_le hz0
            obtain rfl : m = j + 1 := by omega
            have hj : j < L.length := by omega
            obtain ⟨g, rfl, hc⟩ := HNs.out j hj
            have hbk := HBK.out j hj
            have hyl := HLT.out j hj
            have hat := HAT.out j hj
            have hx := HX.out
            rw [← hx] at hbk
            simp only [bnd] at hx
            generalize L[j]?.getD 0 = y at *
            have hd := dec_in s y hyl
            generalize (Utf8.decode s y).2 = v at *
            obtain ⟨⟨q1, q2, q3⟩, hq⟩ : ∃ q, backR s (x : Nat) = q := ⟨_, rfl⟩
            rw [hq] at hbk
            obtain rfl : q2 = (v : Int) := hbk
            subst hx
            have HQ := hide hq
            have HAT' := hide hat
            clear hq hat HX hzm
            go_wp2_with (go_at_call 12; refine (back_q _ HS.out (HU.out.below HC.out) HQ.out).mono ?_; rintro e w3 ⟨rfl, hb3⟩; have HC3 := hide (HC.out.trans (hb3.mono HC.out.size)); have HN3 := hide (HNs.out.below hb3); have hc3 := (hb3.cell (p := ⟨g, j, none⟩) (World.block_lt_of_cell? _ _ hc)).trans hc; clear hb3)
            go_roundw
            case rel => exact ⟨j, y, (j : Int) - 1, by omega, by omega, by omega, by go_num, by go_num, HAT'.out.symm, HN3, HC3.out⟩
            case measure => simp [intOf]
          · obtain rfl : m = 0 := by omega
            obtain rfl : x = 0 := HX.out
            clear hzm
            go_wp2_with (go_at_call 9; refine (read_any _ (HU.out.below HC.out)).mono ?_; rintro e w3 ⟨rfl, hb3⟩)
            go_ret
            exact ⟨rfl, HC.out.trans (hb3.mono HC.out.size)⟩
  · go_enter Tryd.func7, Tryd.ntmps7
    go_wp2_with (go_at_call 9; refine (read_any _ HU.out).mono ?_; rintro e w3 ⟨rfl, hb3⟩)
    go_ret
    exact ⟨rfl, hb3⟩
end Go.Proofs.YtpfpienbgnnocaaDoor
