/- Contracts of places.At and limnerlaw04's line and placed. -/
import Derived.Test.YtkmcfcpockpadaaPfirst
import Derived.KernelRfl
namespace Go.Proofs.Ytkmcfcpockpadaa
open Go.RowKit

set_option maxHeartbeats 400000 in
theorem at_any (s : ByteArray) (line col : Int) (w : World) (hs : s.size ≤ 1048576) (hL : line ≤ 9223372036854775807) (hL0 : -9223372036854775808 ≤ line) : Calls Try.prog 12 #[.string s, .int .i64 line, .int .i64 col] w fun e w' => e = .returned (.int .i64 (atP s line col)) ∧ Below w.heap.size w w' := by
  have hf := fsP_le s line.toNat
  have HA := hide (show ((atP s line col : Nat) : Int) = (min (max col 0) ((enP s (fsP s line.toNat) - fsP s line.toNat : Nat) : Int)) + (fsP s line.toNat : Nat) by unfold atP; omega)
  have HN := hide (nearP_of s _ hf)
  have he1 := (enP_spec s _ hf).1
  have he2 := (enP_spec s _ hf).2.1
  obtain ⟨f, hF⟩ : ∃ f, fsP s line.toNat = f := ⟨_, rfl⟩
  have HF := hide hF
  rw [hF] at hf he1 he2 HA HN
  obtain ⟨e, hE⟩ : ∃ e, enP s f = e := ⟨_, rfl⟩
  have HE := hide hE
  rw [hE] at he1 he2 HA
  clear hF hE
  go_enter Try.func12, Try.ntmps12
  go_wp2_with (first
    | (go_at_call 10; refine (first_any s line _ hs hL hL0).mono ?_; rw [HF.out]; rintro e w1 ⟨rfl, hb1⟩)
    | (go_at_call 16; refine (end_any s f _ hs).mono ?_; rw [HN.out, HE.out]; rintro e w' ⟨rfl, rfl⟩))
  go_ret
  exact ⟨ret_i (by rw [HA.out]; omega), hb1⟩
theorem line_is (s : ByteArray) (a l c : Int) (b : Bool) (w : World) (hs : s.size ≤ 1048576) (h : lineV s a = .tuple #[.int .i64 l, .int .i64 c, .bool b]) : Calls Try.prog 23 #[.string s, .int .i64 a, .int .i64 l, .int .i64 c, .bool b] w fun e w' => e = .returned (.bool true) ∧ w = w' := by
  have H := hide h
  clear h
  go_enter Try.func23, Try.ntmps23
  go_wp2_with (go_at_call 8; refine (line_any s a _ hs).mono ?_; rw [H.out]; rintro e w' ⟨rfl, rfl⟩)
  go_ret
  exact ⟨by simp, rfl⟩

def exS : ByteArray := ⟨#[97, 98, 10, 195, 169, 10]⟩
theorem ex1 : lineV exS 4 = .tuple #[.int .i64 1, .int .i64 1, .bool true] := by
  unfold lineV; rw [if_neg (by decide +kernel), show cntP exS (4 : Int).toNat = 1 by decide +kernel, show stP exS (4 : Int).toNat = 3 by decide +kernel]; rfl
theorem ex2 : lineV exS 6 = .tuple #[.int .i64 2, .int .i64 0, .bool true] := by
  unfold lineV; rw [if_neg (by decide +kernel), show cntP exS (6 : Int).toNat = 2 by decide +kernel, show stP exS (6 : Int).toNat = 6 by decide +kernel]; rfl
theorem ex3 : lineV exS 7 = .tuple #[.int .i64 0, .int .i64 0, .bool false] := by
  unfold lineV; rw [if_pos (by decide +kernel)]
theorem ex4 : fsP exS (1 : Int).toNat = 3 := by decide +kernel
theorem ex5 : fsP exS (9 : Int).toNat = 6 := by decide +kernel
theorem ex6 : atP exS 0 9 = 2 := by decide +kernel
theorem ex7 : atP exS 1 1 = 4 := by decide +kernel
theorem ex8 : stP exS (nearP exS 4) = 3 := by decide +kernel
theorem ex9 : enP exS (nearP exS 4) = 5 := by decide +kernel
theorem ex10 : rnN exS 5 = 4 := by decide +kernel
theorem ex11 : plcI exS 4 = 5 := by decide +kernel
theorem ex12 : plcI exS 9 = 6 := by decide +kernel
theorem exZ : exS.size ≤ 1048576 := by decide +kernel
set_option maxHeartbeats 1000000 in
theorem placed_any (w : World) : Calls Try.prog 7 #[] w fun e w' => e = .returned (.bool true) ∧ Below w.heap.size w w' := by
  obtain ⟨S, hS⟩ : ∃ S, exS = S := ⟨_, rfl⟩
  have h1 := ex1; have h2 := ex2; have h3 := ex3; have h4 := ex4; have h5 := ex5; have h6 := ex6; have h7 := ex7; have h8 := ex8; have h9 := ex9; have h10 := ex10; have h11 := ex11; have h12 := ex12; have hz := exZ
  rw [hS] at h1 h2 h3 h4 h5 h6 h7 h8 h9 h10 h11 h12 hz
  have H1 := hide h1; have H2 := hide h2; have H3 := hide h3; have H4 := hide h4; have H5 := hide h5; have H6 := hide h6; have H7 := hide h7; have H8 := hide h8; have H9 := hide h9; have H10 := hide h10; have H11 := hide h11; have H12 := hide h12
  have HS := hide (show (⟨#[97, 98, 10, 195, 169, 10]⟩ : ByteArray) = S from hS)
  clear h1 h2 h3 h4 h5 h6 h7 h8 h9 h10 h11 h12 hS
  go_enter Try.func7, Try.ntmps7
  go_wp2_with fail
  rw [HS.out]
  refine (line_is S 4 1 1 true _ hz H1.out).mono ?_; rintro e w' ⟨rfl, rfl⟩
  go_wp2_with fail
  refine (line_is S 6 2 0 true _ hz H2.out).mono ?_; rintro e w' ⟨rfl, rfl⟩
  go_wp2_with fail
  refine (line_is S 7 0 0 false _ hz H3.out).mono ?_; rintro e w' ⟨rfl, rfl⟩
  go_wp2_with fail
  refine (first_any S 1 _ hz (by omega) (by omega)).mono ?_; rw [H4.out]; rintro e w1 ⟨rfl, hb1⟩
  go_wp2_with fail
  refine (first_any S 9 _ hz (by omega) (by omega)).mono ?_; rw [H5.out]; rintro e w2 ⟨rfl, hb2⟩
  go_wp2_with fail
  refine (at_any S 0 9 _ hz (by omega) (by omega)).mono ?_; rw [H6.out]; rintro e w3 ⟨rfl, hb3⟩
  go_wp2_with fail
  refine (at_any S 1 1 _ hz (by omega) (by omega)).mono ?_; rw [H7.out]; rintro e w4 ⟨rfl, hb4⟩
  go_wp2_with fail
  refine (start_any S 4 _ hz).mono ?_; rw [H8.out]; rintro e w' ⟨rfl, rfl⟩
  go_wp2_with fail
  refine (end_any S 4 _ hz).mono ?_; rw [H9.out]; rintro e w' ⟨rfl, rfl⟩
  go_wp2_with fail
  refine (runes_any S 5 _ hz).mono ?_; rw [H10.out]; rintro e w5 ⟨rfl, hb5⟩
  go_wp2_with fail
  refine (place_any S 4 _ hz).mono ?_; rw [H11.out]; rintro e w6 ⟨rfl, hb6⟩
  go_wp2_with fail
  refine (place_any S 9 _ hz).mono ?_; rw [H12.out]; rintro e w7 ⟨rfl, hb7⟩
  go_wp2_with fail
  go_ret
  exact ⟨rfl, ((((((hb1.trans (hb2.mono hb1.size)).trans (hb3.mono (Nat.le_trans hb1.size hb2.size))).trans (hb4.mono (Nat.le_trans (Nat.le_trans hb1.size hb2.size) hb3.size))).trans (hb5.mono (Nat.le_trans (Nat.le_trans (Nat.le_trans hb1.size hb2.size) hb3.size) hb4.size))).trans (hb6.mono (Nat.le_trans (Nat.le_trans (Nat.le_trans (Nat.le_trans hb1.size hb2.size) hb3.size) hb4.size) hb5.size))).trans (hb7.mono (Nat.le_trans (Nat.le_trans (Nat.le_trans (Nat.le_trans (Nat.le_trans hb1.size hb2.size) hb3.size) hb4.size) hb5.size) hb6.size)))⟩
end Go.Proofs.Ytkmcfcpockpadaa
