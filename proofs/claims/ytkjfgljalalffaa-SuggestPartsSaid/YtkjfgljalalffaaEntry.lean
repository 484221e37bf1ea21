/- The walk of limnerlaw33.SuggestEntry. -/
import Derived.Test.YtkjfgljalalffaaTold
namespace Go.Proofs.Ytkjfgljalalffaa
open Go.RowKit

/-- The last of the first k entries that begin with s, and are longer; -1: none. -/
def lastHit (zs : List ByteArray) (s : ByteArray) : Nat → Int
  | 0 => -1
  | k + 1 => if s.size ≠ 0 ∧ hit (zs[k]?.getD ByteArray.empty) s = true then k else lastHit zs s k
theorem lastHit_succ (zs : List ByteArray) (s : ByteArray) (k : Nat) : lastHit zs s (k + 1) = if s.size ≠ 0 ∧ hit (zs[k]?.getD ByteArray.empty) s = true then (k : Int) else lastHit zs s k := rfl
theorem lastHit_bd (zs : List ByteArray) (s : ByteArray) : ∀ k, -1 ≤ lastHit zs s k ∧ lastHit zs s k < k
  | 0 => by simp [lastHit]
  | k + 1 => by
    have := lastHit_bd zs s k
    unfold lastHit; split <;> omega
theorem lastHit_neg {zs : List ByteArray} {s : ByteArray} : ∀ {k : Nat}, lastHit zs s k < 0 → s.size = 0 ∨ ofK zs s k = ⟨#[]⟩
  | 0, _ => .inr rfl
  | k + 1, h => by
    unfold lastHit at h
    split at h
    · omega
    · rename_i hc
      rcases lastHit_neg h with h1 | h1
      · exact .inl h1
      · by_cases h0 : s.size = 0
        · exact .inl h0
        · right
          simp only [ofK]
          rw [if_neg (fun e => hc ⟨h0, e⟩), h1]
theorem lastHit_pos {zs : List ByteArray} {s : ByteArray} : ∀ {k : Nat} {j : Nat}, lastHit zs s k = j → s.size ≠ 0 ∧ hit (zs[j]?.getD ByteArray.empty) s = true ∧ ofK zs s k = (zs[j]?.getD ByteArray.empty).extract s.size (zs[j]?.getD ByteArray.empty).size
  | 0, j, h => by simp [lastHit] at h
  | k + 1, j, h => by
    unfold lastHit at h
    split at h
    · rename_i hc
      obtain rfl : k = j := by omega
      exact ⟨hc.1, hc.2, by simp only [ofK, hc.2, if_true]⟩
    · rename_i hc
      obtain ⟨h1, h2, h3⟩ := lastHit_pos h
      refine ⟨h1, h2, ?_⟩
      simp only [ofK]
      rw [if_neg (fun e => hc ⟨h1, e⟩), h3]
theorem lastHit_hit {zs : List ByteArray} {s x : ByteArray} {k : Nat} (hx : x = zs[k]?.getD ByteArray.empty) (h0 : (!s.toList.isEmpty) = true) (h1 : s.size < x.size) (h2 : ((x.extract 0 s.size).toList == s.toList) = true) : lastHit zs s (k + 1) = k := by
  subst hx
  rw [empty_iff] at h0
  rw [lastHit_succ, if_pos ⟨by simpa using h0, by simp only [hit, h2, Bool.and_true, decide_eq_true h1]⟩]
theorem lastHit_miss {zs : List ByteArray} {s x : ByteArray} {k : Nat} (hx : x = zs[k]?.getD ByteArray.empty) (h : (!s.toList.isEmpty) = false ∨ ¬ s.size < x.size ∨ ((x.extract 0 s.size).toList == s.toList) = false) : lastHit zs s (k + 1) = lastHit zs s k := by
  subst hx
  rw [lastHit_succ, if_neg]
  rintro ⟨h0, h1⟩
  simp only [hit, Bool.and_eq_true, decide_eq_true_eq] at h1
  rcases h with h | h | h
  · rw [empty_iff] at h; exact h0 (by simpa only [Bool.not_eq_false', decide_eq_true_eq] using h)
  · exact h h1.1
  · rw [h1.2] at h; cases h

theorem entry_neg {zs : List ByteArray} {s : ByteArray} {N : Nat} (hN : zs.length = N) (h : -1 = lastHit zs s N) : (ofS zs s).toList.isEmpty = true := by
  rw [empty_iff, ofS]
  split
  · rfl
  · rename_i h0
    rcases lastHit_neg (show lastHit zs s N < 0 by omega) with h1 | h1
    · exact absurd h1 h0
    · rw [hN, h1]; rfl
theorem entry_of {zs : List ByteArray} {s : ByteArray} {N j : Nat} (hN : zs.length = N) (h : (j : Int) = lastHit zs s N) : ofS zs s = (zs[j]?.getD ByteArray.empty).extract s.size (zs[j]?.getD ByteArray.empty).size := by
  obtain ⟨h1, h2, h3⟩ := lastHit_pos h.symm
  rw [ofS, if_neg h1, hN, h3]
theorem entry_pos {zs : List ByteArray} {s : ByteArray} {N j : Nat} (hN : zs.length = N) (h : (j : Int) = lastHit zs s N) : (ofS zs s).toList.isEmpty = false := by
  obtain ⟨h1, h2, _⟩ := lastHit_pos h.symm
  simp only [hit, Bool.and_eq_true, decide_eq_true_eq] at h2
  rw [entry_of hN h, empty_iff, cut_size]
  simp only [decide_eq_false_iff_not]; omega
theorem cat_parts (x : ByteArray) (n : Nat) : x.extract 0 n ++ x.extract n x.size = x := by
  apply WideShapes.bytes_inj
  rw [ByteArray.data_append]
  simp only [Lib.extract_eq, Array.toList_append]
  rw [Lib.size_eq]
  simp only [List.drop_zero, Nat.sub_zero]
  rw [List.take_of_length_le (l := x.data.toList.drop n) (by rw [List.length_drop]; exact Nat.le_refl _), List.take_append_drop]
theorem entry_cat {zs : List ByteArray} {s : ByteArray} {N j : Nat} (hN : zs.length = N) (h : (j : Int) = lastHit zs s N) : s ++ ofS zs s = zs[j]?.getD ByteArray.empty := by
  obtain ⟨h1, h2, _⟩ := lastHit_pos h.symm
  simp only [hit, Bool.and_eq_true, decide_eq_true_eq] at h2
  have e := toList_eq h2.2
  rw [entry_of hN h]
  generalize zs[j]?.getD ByteArray.empty = x at *
  conv => lhs; lhs; rw [← e]
  exact cat_parts x s.size

set_option maxRecDepth 100000 in
set_option maxHeartbeats 1000000 in
theorem entry_some (b off cap : Nat) (zs : List ByteArray) (s : ByteArray) (a0 a1 : Int) (w : World) (hg : great zs 30 = false) (h0 : s.size ≤ 200) (ha0 : 0 ≤ a0) (ha0' : a0 ≤ 255) (ha1 : 0 ≤ a1) (ha1' : a1 ≤ 255) (hz : zs ≠ [])
    (hb : b < w.heap.size) (hc : ∀ j, j < zs.length → w.cell? ⟨b, off + j, none⟩ = some (.string (zs[j]?.getD ByteArray.empty))) :
    Calls Try.prog 4 #[.slice (some ⟨b, off, none⟩) zs.length cap, .string s, .agg #[.int .u8 a0, .int .u8 a1]] w fun e w' => e = .returned (.bool true) ∧ Below w.heap.size w w' := by
  have hI : Strs w.heap.size w (.slice (some ⟨b, off, none⟩) zs.length cap) zs := ⟨_, cap, rfl, .inr ⟨b, off, rfl, hb, hc⟩⟩
  have hN30 := (great_all hg).1
  have hN0 : 0 < zs.length := List.length_pos_iff.2 hz
  generalize hN : zs.length = N at hc hI hN30 hN0 ⊢
  have HI := hide hI
  have HG := hide hg
  have HN := hide hN
  have HC := hide hc
  clear hI hg hN hc hz
  go_enter Try.func4, Try.ntmps4
  go_wp2_with (go_at_call 6; refine (great_any w.heap.size _ zs 30 _ (by omega) (by rw [HN.out]; omega) (HI.out.below ((Below.refl _ _).alloc (Nat.le_refl _) _))).mono ?_; rw [HG.out]; rintro e w' ⟨rfl, rfl⟩)
  go_loopw [1, 7] (fun sv t wr => ∃ (s' : ByteArray) (n : Nat), s'.size ≤ 200 ∧ n ≤ 2 ∧ sv = .string s' ∧ t = .int .i64 n ∧ wr.cell? ⟨w.heap.size, 0, none⟩ = some (.int .u8 a0) ∧ wr.cell? ⟨w.heap.size, 1, none⟩ = some (.int .u8 a1) ∧ Below (w.heap.size + 1) (w.alloc (.cells #[.int .u8 a0, .int .u8 a1] 29)) wr) (fun _ t _ => 2 - (intOf t).toNat)
  case atStart => exact ⟨s, 0, h0, by omega, rfl, rfl, by simp, by simp, Below.refl _ _⟩
  case round =>
    obtain ⟨s', n, hs', hn, rfl, rfl, hc0, hc1, hB⟩ := hrel
    have hsz := hB.size
    simp only [World.size_alloc] at hsz
    have HB := hide (((Below.refl _ w).alloc (Nat.le_refl _) (.cells #[.int .u8 a0, .int .u8 a1] 29)).trans (hB.mono (by omega)))
    have HC' : Hid (∀ j, j < N → wr.cell? ⟨b, off + j, none⟩ = some (.string (zs[j]?.getD ByteArray.empty))) := fun j hj => (HB.out.cell (p := ⟨b, off + j, none⟩) hb).trans (HC.out j hj)
    by_cases hlt : n < 2
    · go_wp2_with (go_at_call 8; refine (of_any _ zs _ _ (by rw [HN.out]; omega) ((HI.out.below HB.out).mono HB.out.size)).mono ?_; rintro e w1 ⟨rfl, hb1⟩)
      obtain ⟨r, hr⟩ : ∃ r, r = ofS zs s' := ⟨_, rfl⟩
      rw [← hr]
      have HR := hide hr
      have hsz1 := hb1.size
      have HC1 : Hid (∀ j, j < N → w1.cell? ⟨b, off + j, none⟩ = some (.string (zs[j]?.getD ByteArray.empty))) := fun j hj => (hb1.cell (p := ⟨b, off + j, none⟩) (by show b < wr.heap.size; omega)).trans (HC'.out j hj)
      have hd0 : w1.cell? ⟨w.heap.size, 0, none⟩ = some (.int .u8 a0) := (hb1.cell (p := ⟨w.heap.size, 0, none⟩) hsz).trans hc0
      have hd1 : w1.cell? ⟨w.heap.size, 1, none⟩ = some (.int .u8 a1) := (hb1.cell (p := ⟨w.heap.size, 1, none⟩) hsz).trans hc1
      have HB1 := hide (hB.trans (hb1.mono hsz))
      clear hr hc0 hc1 hB hb1
      go_loop [9, 10] (fun lv iv => ∃ (k : Nat) (L : Int), k ≤ N ∧ -1 ≤ L ∧ L < N ∧ Hid (L = lastHit zs s' k) ∧ lv = .int .i64 L ∧ iv = .int .i64 k) (fun _ iv => N - (intOf iv).toNat)
      case atStart => exact ⟨0, -1, by omega, by omega, by omega, rfl, rfl, rfl⟩
      case round =>
        obtain ⟨k, L, hk, hL0, hL1, HL, rfl, rfl⟩ := hrel
        by_cases hkN : k < N
        · have hck := HC1.out k hkN
          obtain ⟨x, hx⟩ : ∃ x, x = zs[k]?.getD ByteArray.empty := ⟨_, rfl⟩
          rw [← hx] at hck
          have HX := hide hx
          clear hx
          go_wp2
          · have h1 : s'.toList = [] := by assumption
            go_round
            case rel => exact ⟨k + 1, L, by omega, by omega, by omega, HL.out.trans (lastHit_miss HX.out (.inl (by rw [h1]; rfl))).symm, rfl, by go_num⟩
            case measure => simp [intOf]; omega
          · have h1 : s'.size < x.size := by assumption
            have h2 : (!s'.toList.isEmpty) = true ∧ ((x.extract 0 s'.size).toList == s'.toList) = true := by assumption
            go_round
            case rel => exact ⟨k + 1, k, by omega, by omega, by omega, (lastHit_hit HX.out h2.1 h1 h2.2).symm, rfl, by go_num⟩
            case measure => simp [intOf]; omega
          · have h2 : (!s'.toList.isEmpty) = false ∨ ((x.extract 0 s'.size).toList == s'.toList) = false := by assumption
            go_round
            case rel => exact ⟨k + 1, L, by omega, by omega, by omega, HL.out.trans (lastHit_miss HX.out (h2.imp id .inr)).symm, rfl, by go_num⟩
            case measure => simp [intOf]; omega
          · have h1 : ¬ s'.size < x.size := by assumption
            go_round
            case rel => exact ⟨k + 1, L, by omega, by omega, by omega, HL.out.trans (lastHit_miss HX.out (.inr (.inl h1))).symm, rfl, by go_num⟩
            case measure => simp [intOf]; omega
        · obtain rfl : k = N := by omega
          obtain ⟨q, hq⟩ : ∃ q : Nat, a0 % k = (q : Int) := ⟨(a0 % k).toNat, (Int.toNat_of_nonneg (Int.emod_nonneg _ (by omega))).symm⟩
          have hqk : q < k := by
            have := Int.emod_lt_of_pos a0 (show (0 : Int) < k by omega)
            omega
          have hcq := HC1.out q hqk
          obtain ⟨x, hx⟩ : ∃ x, x = zs[q]?.getD ByteArray.empty := ⟨_, rfl⟩
          rw [← hx] at hcq
          have hxs : x.size ≤ 200 := by rw [hx]; exact (great_all HG.out).2 q (by rw [HN.out]; exact hqk)
          obtain ⟨q1, hq1⟩ : ∃ q1 : Nat, a1 % (x.size + 1) = (q1 : Int) := ⟨(a1 % (x.size + 1)).toNat, (Int.toNat_of_nonneg (Int.emod_nonneg _ (by omega))).symm⟩
          have hq1x : q1 ≤ x.size := by
            have := Int.emod_lt_of_pos a1 (show (0 : Int) < x.size + 1 by omega)
            omega
          have hrs : r.size ≤ 200 := by rw [HR.out]; exact ofS_size (great_all HG.out).2
          by_cases hL : L < 0
          · obtain rfl : L = -1 := by omega
            have he : r.toList.isEmpty = true := by rw [HR.out]; exact entry_neg HN.out HL.out
            clear hx
            go_wp2
            go_roundw
            case rel => exact ⟨x.extract 0 q1, n + 1, by rw [ByteArray.size_extract]; omega, by omega, rfl, by go_num, hd0, hd1, HB1.out⟩
            case measure => simp [intOf]; omega
          · obtain ⟨j, rfl⟩ := Int.eq_ofNat_of_zero_le (show 0 ≤ L by omega)
            have hcj := HC1.out j (by omega)
            obtain ⟨y, hy⟩ : ∃ y, y = zs[j]?.getD ByteArray.empty := ⟨_, rfl⟩
            rw [← hy] at hcj
            have he : r.toList.isEmpty = false := by rw [HR.out]; exact entry_pos HN.out HL.out
            have hcat : s' ++ r = y := by rw [HR.out, hy]; exact entry_cat HN.out HL.out
            clear hx hy
            go_wp2
            go_roundw
            case rel => exact ⟨x.extract 0 q1, n + 1, by rw [ByteArray.size_extract]; omega, by omega, rfl, by go_num, hd0, hd1, HB1.out⟩
            case measure => simp [intOf]; omega
    · obtain rfl : n = 2 := by omega
      go_wp2_with (go_at_call 7; refine (told_any _).mono ?_; rintro e w4 ⟨rfl, hb4⟩)
      go_ret
      exact ⟨rfl, HB.out.trans (hb4.mono HB.out.size)⟩

set_option maxRecDepth 100000 in
set_option maxHeartbeats 1000000 in
theorem entry_none (A : Option Addr) (cap : Nat) (s : ByteArray) (a0 a1 : Int) (w : World) (h0 : s.size ≤ 200) :
    Calls Try.prog 4 #[.slice A 0 cap, .string s, .agg #[.int .u8 a0, .int .u8 a1]] w fun e w' => e = .returned (.bool true) ∧ Below w.heap.size w w' := by
  have HI := hide (show Strs w.heap.size w (.slice A 0 cap) [] from ⟨A, cap, rfl, .inl rfl⟩)
  have HG := hide (show great [] 30 = false from rfl)
  have hr : ofS [] s = ⟨#[]⟩ := by rw [ofS]; split <;> rfl
  have HR := hide hr
  clear hr
  go_enter Try.func4, Try.ntmps4
  go_wp2_with (go_at_call 6; refine (great_any w.heap.size _ [] 30 _ (by omega) (by simp) (HI.out.below ((Below.refl _ _).alloc (Nat.le_refl _) _))).mono ?_; rw [HG.out]; rintro e w' ⟨rfl, rfl⟩)
  go_loopw [1, 7] (fun sv t wr => ∃ (n : Nat), n ≤ 2 ∧ sv = .string s ∧ t = .int .i64 n ∧ Below w.heap.size w wr) (fun _ t _ => 2 - (intOf t).toNat)
  case atStart => exact ⟨0, by omega, rfl, rfl, (Below.refl _ _).alloc (Nat.le_refl _) _⟩
  case round =>
    obtain ⟨n, hn, rfl, rfl, hB⟩ := hrel
    have HB := hide hB
    clear hB
    by_cases hlt : n < 2
    · go_wp2_with (go_at_call 8; refine (of_any _ [] _ _ (by simp) ((HI.out.below HB.out).mono HB.out.size)).mono ?_; rw [HR.out]; rintro e w1 ⟨rfl, hb1⟩)
      have HB1 := hide (HB.out.trans (hb1.mono HB.out.size))
      clear hb1
      go_loop [9, 10] (fun lv iv => lv = .int .i64 (-1) ∧ iv = .int .i64 0) (fun _ _ => 0)
      case atStart => exact ⟨rfl, rfl⟩
      case round =>
        obtain ⟨rfl, rfl⟩ := hrel
        go_wp2
        go_roundw
        case rel => exact ⟨n + 1, by omega, rfl, by go_num, HB1.out⟩
        case measure => simp [intOf]; omega
    · obtain rfl : n = 2 := by omega
      go_wp2_with (go_at_call 7; refine (told_any _).mono ?_; rintro e w4 ⟨rfl, hb4⟩)
      go_ret
      exact ⟨rfl, HB.out.trans (hb4.mono HB.out.size)⟩

set_option maxRecDepth 100000 in
set_option maxHeartbeats 1000000 in
/-- **limnerlaw33.SuggestEntry answers true.** -/
theorem entry_any (sv : Value) (zs : List ByteArray) (s : ByteArray) (a0 a1 : Int) (w : World) (hlen : zs.length ≤ 17592186044415) (hz : s.size ≤ 9223372036854775807) (ha0 : 0 ≤ a0 ∧ a0 ≤ 255) (ha1 : 0 ≤ a1 ∧ a1 ≤ 255) (hI : Strs w.heap.size w sv zs) :
    Calls Try.prog 4 #[sv, .string s, .agg #[.int .u8 a0, .int .u8 a1]] w fun e w' => e = .returned (.bool true) ∧ Below w.heap.size w w' := by
  cases hg : great zs 30
  · by_cases h0 : s.size ≤ 200
    · obtain ⟨A, cap, rfl, rfl | ⟨b, off, rfl, hb, hc⟩⟩ := hI
      · exact entry_none A cap s a0 a1 w h0
      · by_cases hz0 : zs = []
        · subst hz0
          exact entry_none _ cap s a0 a1 w h0
        · exact entry_some b off cap zs s a0 a1 w hg h0 ha0.1 ha0.2 ha1.1 ha1.2 hz0 hb hc
    · have HI := hide hI
      have HG := hide hg
      clear hI hg
      go_enter Try.func4, Try.ntmps4
      go_wp2_with (first
        | (go_at_call 6; refine (great_any w.heap.size sv zs 30 _ (by omega) hlen (HI.out.below ((Below.refl _ _).alloc (Nat.le_refl _) _))).mono ?_; rw [HG.out]; rintro e w' ⟨rfl, rfl⟩)
        | (go_at_call 7; refine (told_any _).mono ?_; rintro e w4 ⟨rfl, hb4⟩))
      go_ret
      exact ⟨rfl, ((Below.refl _ _).alloc (Nat.le_refl _) _).trans (hb4.mono (by simp))⟩
  · have HI := hide hI
    have HG := hide hg
    clear hI hg
    go_enter Try.func4, Try.ntmps4
    go_wp2_with (first
      | (go_at_call 6; refine (great_any w.heap.size sv zs 30 _ (by omega) hlen (HI.out.below ((Below.refl _ _).alloc (Nat.le_refl _) _))).mono ?_; rw [HG.out]; rintro e w' ⟨rfl, rfl⟩)
      | (go_at_call 7; refine (told_any _).mono ?_; rintro e w4 ⟨rfl, hb4⟩))
    go_ret
    exact ⟨rfl, ((Below.refl _ _).alloc (Nat.le_refl _) _).trans (hb4.mono (by simp))⟩
end Go.Proofs.Ytkjfgljalalffaa
