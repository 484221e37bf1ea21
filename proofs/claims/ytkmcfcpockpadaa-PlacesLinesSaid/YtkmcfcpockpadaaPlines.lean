/- The walk of limnerlaw04.PlacesLines. -/
import Derived.Test.YtkmcfcpockpadaaPlaw
import Derived.Test.YtkmcfcpockpadaaPjoin
import Derived.Test.YtkmcfcpockpadaaOpenrow
import Derived.Deep.LoopGhost
namespace Go.Proofs.Ytkmcfcpockpadaa
open Go.RowKit

/-- The strings that a slice holds. -/
def StrRow (W : World) (v : Value) (zs : List ByteArray) : Prop :=
  ∃ A cap, v = .slice A zs.length cap ∧ zs.length ≤ maxLen ∧ (∀ z ∈ zs, z.size ≤ maxLen) ∧ ∀ j z, zs[j]? = some z → ∃ b o, A = some ⟨b, o, none⟩ ∧ b < W.heap.size ∧ W.cell? ⟨b, o + j, none⟩ = some (.string z)
def lineF (zs : List ByteArray) (j : Nat) : List UInt8 := strip ((zs[j]?.getD ⟨#[]⟩).data.toList)
theorem lineF_no (zs : List ByteArray) : ∀ j, ∀ c ∈ lineF zs j, c ≠ 10 := fun _ => strip_no _
theorem ext_one {z : ByteArray} {k : Nat} (h : k < z.size) : (z.extract k (k + 1)).data.toList = [z.data.toList[k]'(by rw [Array.length_toList]; exact h)] := by
  have h2 : k < z.data.toList.length := by rw [Array.length_toList]; exact h
  rw [lf_ext, Nat.add_sub_cancel_left, List.take_one]
  rw [List.head?_drop, List.getElem?_eq_getElem h2]; rfl
theorem one_go {O z : ByteArray} {k : Nat} (hk : k < z.size) (h : O.data.toList = strip (z.data.toList.take k)) (hl : lf z k = false) : (O ++ z.extract k (k + 1)).data.toList = strip (z.data.toList.take (k + 1)) := by
  have h2 : k < z.data.toList.length := by rw [Array.length_toList]; exact hk
  rw [join_data, h, ext_one hk, strip_snoc _ _ h2, if_neg]
  rw [lf_get hk, List.getElem?_eq_getElem h2] at hl
  simpa using hl
theorem one_skip {O z : ByteArray} {k : Nat} (hk : k < z.size) (h : O.data.toList = strip (z.data.toList.take k)) (hl : lf z k = true) : O.data.toList = strip (z.data.toList.take (k + 1)) := by
  have h2 : k < z.data.toList.length := by rw [Array.length_toList]; exact hk
  rw [h, strip_snoc _ _ h2, if_pos, List.append_nil]
  rw [lf_get hk, List.getElem?_eq_getElem h2] at hl
  simpa using hl
theorem one_all {O z : ByteArray} (h : O.data.toList = strip (z.data.toList.take z.size)) : O.data.toList = strip z.data.toList := by
  rw [h, List.take_of_length_le (by rw [Array.length_toList]; exact Nat.le_refl _)]
theorem line_f {zs : List ByteArray} {i : Nat} {z O : ByteArray} (hz : zs[i]? = some z) (h : O.data.toList = strip z.data.toList) : O.data.toList = lineF zs i := by
  unfold lineF; rw [hz]; exact h
theorem sizeL (a : ByteArray) : a.size = a.data.toList.length := (Array.length_toList).symm
theorem sum_go {S O : ByteArray} {zs : List ByteArray} {i : Nat} (h : S.data.toList = jS (lineF zs) zs.length i) (hO : O.data.toList = lineF zs i) (hi : i + 1 < zs.length) : (S ++ O ++ ⟨#[10]⟩).data.toList = jS (lineF zs) zs.length (i + 1) := by
  rw [join_data, join_data, h, hO, jS_succ, if_pos hi]
theorem sum_end {S O : ByteArray} {zs : List ByteArray} {i : Nat} (h : S.data.toList = jS (lineF zs) zs.length i) (hO : O.data.toList = lineF zs i) (hi : ¬ i + 1 < zs.length) : (S ++ O).data.toList = jS (lineF zs) zs.length (i + 1) := by
  rw [join_data, h, hO, jS_succ, if_neg hi, List.append_nil]
theorem lineF_le {zs : List ByteArray} {n : Nat} (h : ∀ j z, j < n → zs[j]? = some z → z.size ≤ 50) (hn : n = zs.length) (j : Nat) : (lineF zs j).length ≤ 50 := by
  unfold lineF
  refine Nat.le_trans (strip_le _) ?_
  by_cases hj : j < zs.length
  · have := h j zs[j] (by omega) (List.getElem?_eq_getElem hj)
    rw [List.getElem?_eq_getElem hj, ← sizeL]; exact this
  · rw [List.getElem?_eq_none (by omega)]; simp

set_option maxHeartbeats 4000000 in
set_option maxRecDepth 100000 in
theorem PlacesLines_any (v : Value) (zs : List ByteArray) (w : World) (h : StrRow w v zs) : Calls Try.prog 6 #[v] w fun e w' => e = .returned (.bool true) ∧ Below w.heap.size w w' := by
  obtain ⟨A, cap, rfl, hmax, hzl, hc⟩ := h
  unfold maxLen at hmax
  by_cases h0 : zs.length = 0
  · have hz0 : (zs.length : Int) = 0 := by omega
    obtain rfl : zs = [] := List.length_eq_zero_iff.1 h0
    clear h0 hz0 hc hzl
    go_enter Try.func6, Try.ntmps6
    go_wp2_with fail
    refine (placed_any w).mono ?_; rintro e w1 ⟨rfl, hb1⟩
    go_wp2
    go_ret
    exact ⟨rfl, hb1⟩
  by_cases hsm : 30 < zs.length
  · go_enter Try.func6, Try.ntmps6
    go_wp2_with fail
    refine (placed_any w).mono ?_; rintro e w1 ⟨rfl, hb1⟩
    go_wp2
    go_ret
    exact ⟨rfl, hb1⟩
  have hnb : ((zs.length : Int) == 0) = false := beq_eq_false_iff_ne.2 (by omega)
  have HC := hide hc
  have HZL := hide hzl
  clear hc hzl
  obtain ⟨n, hn⟩ : ∃ n, zs.length = n := ⟨_, rfl⟩
  have HN := hide hn
  rw [hn] at hmax h0 hsm hnb ⊢
  clear hn
  have h01 : 1 ≤ n := by omega
  go_enter Try.func6, Try.ntmps6
  go_wp2_with fail
  go_loopg [3, 4, 5] 3 (fun gk s a t wr => ∃ (T : Int) (S : ByteArray) (x : Int), s = .string S ∧ a = .int .i64 x ∧ t = .int .i64 T ∧ 0 ≤ T ∧ T ≤ 2 ∧ Hid ((gk : Int) = 3 - T) ∧ Hid (T = 0 → S = ⟨#[]⟩) ∧ Hid (T ≤ 1 → x = 0) ∧ S.size ≤ 100000 ∧ Hid (1 ≤ T → S.data.toList = jS (lineF zs) zs.length zs.length ∧ ∀ j z, j < n → zs[j]? = some z → z.size ≤ 50) ∧ Hid (Below w.heap.size w wr))
  case atStart => exact ⟨0, _, 0, rfl, rfl, rfl, by omega, by omega, hide (by omega), hide (fun _ => rfl), hide (fun _ => rfl), by decide, hide (fun h => by omega), hide (Below.refl _ _)⟩
  case round =>
    obtain ⟨T, S, x, rfl, rfl, rfl, hT0, hT2, HG, HS0, HX0, hSz, HS1, HB⟩ := hrel
    obtain ⟨wo, rfl⟩ : ∃ wo : World, wo = wr := ⟨_, rfl⟩
    obtain ⟨g0, rfl⟩ : ∃ g0 : Nat, g0 = gk := ⟨_, rfl⟩
    by_cases hTe : T = 2
    · subst hTe
      obtain ⟨h1, h2⟩ := HS1.out (by omega)
      have HL := hide (show lineV S (S.size : Nat) = .tuple #[.int .i64 ((n : Int) - 1), .int .i64 (((S.size : Nat) : Int) - (stP S S.size : Nat)), .bool true] by
        unfold lineV
        rw [if_neg (by omega), Int.toNat_natCast, lines_cnt h1 (lineF_no zs) (by have := HN.out; omega), HN.out]
        rw [show ((n - 1 : Nat) : Int) = (n : Int) - 1 by omega])
      have hsz : S.size ≤ 1048576 := by omega
      clear h1 h2
      go_wp2_with fail
      refine (line_any S (S.size : Nat) _ hsz).mono ?_; rw [HL.out]; rintro e w' ⟨rfl, rfl⟩
      go_wp2_with fail
      refine (placed_any _).mono ?_; rintro e w2 ⟨rfl, hb1⟩
      replace HB := hide (HB.out.trans (hb1.mono HB.out.size))
      clear hb1
      go_wp2
      go_ret
      exact ⟨rfl, HB.out⟩
    by_cases hTz : T = 0
    · subst hTz
      obtain rfl := HS0.out rfl
      obtain rfl := HX0.out (by omega)
      go_wp2_with fail
      go_loopg [3, 4, 6] n (fun gj s a i wr => ∃ (J : Nat) (S : ByteArray), s = .string S ∧ a = .int .i64 0 ∧ i = .int .i64 J ∧ J ≤ n ∧ Hid (gj = n - J) ∧ S.size ≤ J * 51 ∧ Hid (S.data.toList = jS (lineF zs) zs.length J) ∧ Hid (∀ j z, j < J → zs[j]? = some z → z.size ≤ 50) ∧ Hid (Below w.heap.size w wr))
      case atStart => exact ⟨0, ⟨#[]⟩, rfl, rfl, rfl, Nat.zero_le _, hide rfl, Nat.le_refl _, hide rfl, hide (fun j z h _ => by omega), HB⟩
      case round =>
        clear HB
        obtain ⟨J, S, rfl, rfl, rfl, hJ, HGJ, hSz, HS, HJ, HB⟩ := hrel
        by_cases hlt : J < n
        · obtain ⟨z, hz⟩ : ∃ z, zs[J]? = some z := ⟨_, List.getElem?_eq_getElem (by have := HN.out; omega)⟩
          obtain ⟨b, o1, rfl, hbl, e0⟩ := HC.out J z hz
          have e0' := (HB.out.cell (p := ⟨b, o1 + J, none⟩) hbl).trans e0
          have hbw : b < wr.heap.size := Nat.lt_of_lt_of_le hbl HB.out.size
          have HZ := hide hz
          clear hz e0
          by_cases hz50 : 50 < z.size
          · go_wp2_with fail
            refine (placed_any _).mono ?_; rintro e w2 ⟨rfl, hb1⟩
            replace HB := hide (HB.out.trans (hb1.mono HB.out.size))
            clear hb1
            go_wp2
            go_ret
            exact ⟨rfl, HB.out⟩
          go_wp2_with fail
          go_loop [7, 8] (fun o k => ∃ (K : Nat) (O : ByteArray), o = .string O ∧ k = .int .i64 K ∧ K ≤ z.size ∧ O.size ≤ K ∧ Hid (O.data.toList = strip (z.data.toList.take K))) (fun _ k => z.size - (intOf k).toNat)
          case atStart => exact ⟨0, ⟨#[]⟩, rfl, rfl, Nat.zero_le _, Nat.le_refl _, hide rfl⟩
          case round =>
            obtain ⟨K, O, rfl, rfl, hK, hO, HO⟩ := hrel
            by_cases hKz : K < z.size
            · go_wp2
              · go_round
                case rel => exact ⟨K + 1, _, rfl, by go_num, by omega, by rw [ByteArray.size_append, ByteArray.size_extract]; omega, hide (one_go hKz HO.out (ne_t hKz (by assumption)))⟩
                case measure => simp [intOf]; omega
              · go_round
                case rel => exact ⟨K + 1, O, rfl, by go_num, by omega, by omega, hide (one_skip hKz HO.out (ne_f hKz (by assumption)))⟩
                case measure => simp [intOf]; omega
            · obtain rfl : K = z.size := by omega
              have HOL := hide (line_f HZ.out (one_all HO.out))
              have hJS : J * 51 ≤ 1530 := by omega
              by_cases hJ1 : J + 1 < n
              · go_wp2
                go_roundg (n - (J + 1))
                case measure => have := HGJ.out; omega
                case rel => exact ⟨J + 1, _, rfl, rfl, by go_num, by omega, hide rfl, by simp only [ByteArray.size_append]; (try simp only [sizeL]); simp; omega, hide (sum_go HS.out HOL.out (by rw [HN.out]; exact hJ1)), hide (fun j z' hj hz' => by
                  by_cases e : j = J
                  · subst e; rw [HZ.out] at hz'; injection hz' with hz'; subst hz'; omega
                  · exact HJ.out j z' (by omega) hz'), HB⟩
              · go_wp2
                go_roundg (n - (J + 1))
                case measure => have := HGJ.out; omega
                case rel => exact ⟨J + 1, _, rfl, rfl, by go_num, by omega, hide rfl, by rw [ByteArray.size_append]; omega, hide (sum_end HS.out HOL.out (by rw [HN.out]; exact hJ1)), hide (fun j z' hj hz' => by
                  by_cases e : j = J
                  · subst e; rw [HZ.out] at hz'; injection hz' with hz'; subst hz'; omega
                  · exact HJ.out j z' (by omega) hz'), HB⟩
        · obtain rfl : J = n := by omega
          go_wp2
          go_roundg (g0 - 1)
          case measure => have := HG.out; omega
          case rel => exact ⟨1, S, 0, rfl, rfl, by go_num, by omega, by omega, hide (by have := HG.out; omega), hide (fun h => by omega), hide (fun _ => rfl), by omega, hide (fun _ => ⟨by have := HS.out; rw [← HN.out] at this; exact this, HJ.out⟩), HB⟩
    · obtain rfl : T = 1 := by omega
      obtain rfl := HX0.out (by omega)
      obtain ⟨hS1, hS2⟩ := HS1.out (by omega)
      have HLA := hide (lines_at hS1 (lineF_no zs))
      have HLE := hide hS2
      clear hS1 hS2
      go_wp2_with fail
      go_loopg [3, 4, 6] n (fun gj s a i wr => ∃ (J q : Nat), s = .string S ∧ a = .int .i64 q ∧ i = .int .i64 J ∧ J ≤ n ∧ q ≤ J * 51 ∧ Hid (gj = n - J) ∧ Hid (q = jA (lineF zs) J) ∧ Hid (Below w.heap.size w wr))
      case atStart => exact ⟨0, 0, rfl, by go_num, by go_num, Nat.zero_le _, Nat.le_refl _, hide rfl, hide rfl, HB⟩
      case round =>
        clear HB
        obtain ⟨J, q, rfl, rfl, rfl, hJ, hq, HGJ, HQ, HB⟩ := hrel
        by_cases hlt : J < n
        · obtain ⟨z, hz⟩ : ∃ z, zs[J]? = some z := ⟨_, List.getElem?_eq_getElem (by have := HN.out; omega)⟩
          obtain ⟨b, o1, rfl, hbl, e0⟩ := HC.out J z hz
          have e0' := (HB.out.cell (p := ⟨b, o1 + J, none⟩) hbl).trans e0
          have hbw : b < wr.heap.size := Nat.lt_of_lt_of_le hbl HB.out.size
          have HZ := hide hz
          have hz50 : ¬ 50 < z.size := by have := HLE.out J z hlt hz; omega
          clear hz e0
          go_wp2_with fail
          go_loop [7, 8] (fun o k => ∃ (K : Nat) (O : ByteArray), o = .string O ∧ k = .int .i64 K ∧ K ≤ z.size ∧ O.size ≤ K ∧ Hid (O.data.toList = strip (z.data.toList.take K))) (fun _ k => z.size - (intOf k).toNat)
          case atStart => exact ⟨0, ⟨#[]⟩, rfl, rfl, Nat.zero_le _, Nat.le_refl _, hide rfl⟩
          case round =>
            obtain ⟨K, O, rfl, rfl, hK, hO, HO⟩ := hrel
            by_cases hKz : K < z.size
            · go_wp2
              · go_round
                case rel => exact ⟨K + 1, _, rfl, by go_num, by omega, by rw [ByteArray.size_append, ByteArray.size_extract]; omega, hide (one_go hKz HO.out (ne_t hKz (by assumption)))⟩
                case measure => simp [intOf]; omega
              · go_round
                case rel => exact ⟨K + 1, O, rfl, by go_num, by omega, by omega, hide (one_skip hKz HO.out (ne_f hKz (by assumption)))⟩
                case measure => simp [intOf]; omega
            · obtain rfl : K = z.size := by omega
              have HOL := hide (line_f HZ.out (one_all HO.out))
              have hJS : J * 51 ≤ 1530 := by omega
              have hOl : O.size = (lineF zs J).length := by rw [sizeL, HOL.out]
              obtain ⟨f1, f2, f3, f4⟩ := HLA.out J (by rw [HN.out]; exact hlt)
              rw [← hOl, ← HQ.out] at f2 f3 f4
              rw [← HQ.out] at f1
              have f5 := f4 60 (by omega)
              have F1 := hide f1
              have F2 := hide (show enP S (nearP S q) = q + O.size by rw [nearP_of S q (by omega), f2])
              have F5 := hide f5
              have HOS := hide hOl
              have hsz : S.size ≤ 1048576 := by omega
              clear f1 f2 f3 f4 f5 hOl
              go_wp2_with fail
              refine (first_any S J _ hsz (by omega) (by omega)).mono ?_; rw [Int.toNat_natCast, F1.out]; rintro e w2 ⟨rfl, hb1⟩
              replace HB := hide (HB.out.trans (hb1.mono HB.out.size))
              clear hb1
              go_wp2_with fail
              refine (end_any S q _ hsz).mono ?_; rw [F2.out]; rintro e w' ⟨rfl, rfl⟩
              go_wp2_with fail
              refine (at_any S J 60 _ hsz (by omega) (by omega)).mono ?_; rw [F5.out]; rintro e w3 ⟨rfl, hb1⟩
              replace HB := hide (HB.out.trans (hb1.mono HB.out.size))
              clear hb1
              go_wp2
              go_roundg (n - (J + 1))
              case measure => have := HGJ.out; omega
              case rel => exact ⟨J + 1, q + O.size + 1, rfl, by go_num, by go_num, by omega, by omega, hide rfl, hide (by rw [jA_succ, HQ.out, HOS.out]), HB⟩
        · obtain rfl : J = n := by omega
          go_wp2
          go_roundg (g0 - 1)
          case measure => have := HG.out; omega
          case rel => exact ⟨2, S, _, rfl, rfl, by go_num, by omega, by omega, hide (by have := HG.out; omega), hide (fun h => by omega), hide (fun h => by omega), hSz, hide (fun _ => HS1.out (by omega)), HB⟩
end Go.Proofs.Ytkmcfcpockpadaa
