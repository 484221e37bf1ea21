/- limnerref10: at, special, digit, sign, Has. -/
import Derived.Test.YtfamoikmfbpigaaDoorEsig
namespace Go.Proofs.YtfamoikmfbpigaaDoor
open Go.RowKit

theorem ret_byte (x : UInt8) (n : Int) (h : n = (x.toNat : Int)) : Ending.returned (.int .i64 (wrap64 (x.toNat : Int))) = .returned (.int .i64 n) := by
  have := x.toNat_lt
  rw [h, show wrap64 (x.toNat : Int) = (x.toNat : Int) by unfold wrap64; omega]
theorem ret_i64 {a b : Int} (h : a = b) : Ending.returned (.int .i64 a) = .returned (.int .i64 b) := by rw [h]
theorem ret_bool {a b : Bool} (h : a = b) : Ending.returned (.bool a) = .returned (.bool b) := by rw [h]
def atI (s : ByteArray) (i : Nat) : Int := if h : i < s.size then (s[i].toNat : Int) else -1
set_option maxRecDepth 100000 in
theorem rat_any (s : ByteArray) (i : Nat) (w : World) (hs : s.size ≤ 1000000) : Calls Tryd.prog 40 #[.string s, .int .i64 (i : Int)] w fun e w' => e = .returned (.int .i64 (atI s i)) ∧ w = w' := by
  by_cases h : i < s.size
  · have HN := hide (show atI s i = (s[i].toNat : Int) from dif_pos h)
    have q1 : ¬ (s.size : Int) ≤ (i : Int) := by omega
    go_enter Tryd.func40, Tryd.ntmps40
    go_wp2
    go_ret
    exact ⟨(ret_byte _ _ HN.out :), rfl⟩
  · have HN := hide (show atI s i = -1 from dif_neg h)
    have q1 : (s.size : Int) ≤ (i : Int) := by omega
    go_enter Tryd.func40, Tryd.ntmps40
    go_wp2
    go_ret
    exact ⟨ret_i64 HN.out.symm, rfl⟩
def spN (i : Nat) : Nat := (spcL.data.toList[i]?.getD 0).toNat
theorem spec_any : ∀ b, b < 256 → specE b = (List.range 12).any (fun i => spN i == b) := by decide +kernel
theorem spec_yes {b i : Nat} (hb : b < 256) (h : i < 12) (h2 : spN i = b) : specE b = true := by
  rw [spec_any b hb, List.any_eq_true]
  exact ⟨i, List.mem_range.2 h, by simpa using h2⟩
theorem spec_no {b : Nat} (hb : b < 256) (h : ∀ i, i < 12 → spN i ≠ b) : specE b = false := by
  rw [spec_any b hb, List.any_eq_false]
  intro i hi
  simpa using h i (List.mem_range.1 hi)
theorem spN_at (L : ByteArray) (h : spcL = L) : L.size = 12 ∧ ∀ (j : Nat) (hj : j < L.size), L[j].toNat = spN j := by
  subst h
  refine ⟨rfl, fun j hj => ?_⟩
  have h12 : j < 12 := hj
  unfold spN
  rw [List.getElem?_eq_getElem (show j < spcL.data.toList.length from hj)]
  rfl
set_option maxRecDepth 100000 in
set_option maxHeartbeats 4000000 in
theorem rspecial_any (b : Nat) (hb : b < 256) (w : World) : Calls Tryd.prog 63 #[.int .u8 (b : Int)] w fun e w' => e = .returned (.bool (specE b)) ∧ w = w' := by
  go_enter Tryd.func63, Tryd.ntmps63
  go_wp2
  obtain ⟨L, hL⟩ : ∃ L, (⟨#[40, 41, 91, 93, 124, 42, 43, 63, 46, 92, 45, 94]⟩ : ByteArray) = L := ⟨_, rfl⟩
  have HA := spN_at L hL
  rw [hL]
  clear hL
  obtain ⟨hL12, hLj⟩ := HA
  have HLJ := hide hLj
  clear hLj
  go_loopw [4] (fun iv wr => ∃ j : Nat, iv = .int .i64 (j : Int) ∧ j ≤ 12 ∧ wr = w ∧ Hid (∀ i, i < j → spN i ≠ b)) (fun iv _ => 12 - (intOf iv).toNat)
  case atStart => exact ⟨0, rfl, by omega, rfl, hide (fun i h => absurd h (by omega))⟩
  case round =>
    obtain ⟨j, rfl, hj, rfl, HJ⟩ := hrel
    have hLs : (L.size : Int) = 12 := by omega
    by_cases hlt : j < 12
    · have h1 : (j : Int) < (L.size : Int) := by omega
      have hjl : j < L.size := by omega
      have HV := HLJ.out j hjl
      obtain ⟨x, hx⟩ : ∃ x, L[j].toNat = x := ⟨_, rfl⟩
      by_cases hq : spN j = b
      · have HR := hide (spec_yes hb hlt hq)
        have q1 : ((L[j].toNat : Int) == (b : Int)) = true := by simp; omega
        clear hq HV hx
        go_wp2
        go_ret
        exact ⟨ret_bool HR.out.symm, rfl⟩
      · have q1 : ((L[j].toNat : Int) == (b : Int)) = false := by simp; omega
        have HN := hide (show ∀ i, i < j + 1 → spN i ≠ b from fun i hi => by
          rcases Nat.lt_or_ge i j with h | h
          · exact HJ.out i h
          · obtain rfl : i = j := by omega
            exact hq)
        clear hq HV hx
        go_wp2
        go_roundw
        case rel => exact ⟨j + 1, by go_num, by omega, by first | rfl | trivial, HN⟩
        case measure => simp [intOf]; omega
    · obtain rfl : j = 12 := by omega
      have h1 : ¬ (12 : Int) < (L.size : Int) := by omega
      have HR := hide (spec_no hb HJ.out)
      go_wp2
      go_ret
      exact ⟨ret_bool HR.out.symm, rfl⟩
def digR (b : Nat) : Int := match digE b with | some d => (d : Int) | none => -1
theorem digR_eq : ∀ b, b < 256 → digR b = if 48 ≤ b ∧ b ≤ 57 then ((b - 48 : Nat) : Int) else if 97 ≤ b ∧ b ≤ 102 then ((b - 87 : Nat) : Int) else if 65 ≤ b ∧ b ≤ 70 then ((b - 55 : Nat) : Int) else -1 := by decide +kernel
set_option maxRecDepth 100000 in
set_option maxHeartbeats 1000000 in
theorem rdigit_any (b : Nat) (hb : b < 256) (w : World) : Calls Tryd.prog 64 #[.int .u8 (b : Int)] w fun e w' => e = .returned (.int .i64 (digR b)) ∧ w = w' := by
  have HD := hide (digR_eq b hb)
  by_cases h1 : 48 ≤ b ∧ b ≤ 57
  · have HR := hide (show digR b = ((b - 48 : Nat) : Int) by rw [HD.out, if_pos h1])
    have q1 : (48 : Int) ≤ (b : Int) := by omega
    have q2 : (b : Int) ≤ 57 := by omega
    go_enter Tryd.func64, Tryd.ntmps64
    go_wp2
    go_ret
    exact ⟨ret_i64 (by rw [HR.out]; omega), rfl⟩
  by_cases h2 : 97 ≤ b ∧ b ≤ 102
  · have HR := hide (show digR b = ((b - 87 : Nat) : Int) by rw [HD.out, if_neg h1, if_pos h2])
    have q1 : (48 : Int) ≤ (b : Int) := by omega
    have q2 : ¬ (b : Int) ≤ 57 := by omega
    have q3 : (97 : Int) ≤ (b : Int) := by omega
    have q4 : (b : Int) ≤ 102 := by omega
    go_enter Tryd.func64, Tryd.ntmps64
    go_wp2
    go_ret
    exact ⟨ret_i64 (by rw [HR.out]; omega), rfl⟩
  by_cases h3 : 65 ≤ b ∧ b ≤ 70
  · have HR := hide (show digR b = ((b - 55 : Nat) : Int) by rw [HD.out, if_neg h1, if_neg h2, if_pos h3])
    have q1 : (48 : Int) ≤ (b : Int) := by omega
    have q2 : ¬ (b : Int) ≤ 57 := by omega
    have q3 : ¬ (97 : Int) ≤ (b : Int) := by omega
    have q5 : (65 : Int) ≤ (b : Int) := by omega
    have q4 : (b : Int) ≤ 70 := by omega
    go_enter Tryd.func64, Tryd.ntmps64
    go_wp2
    go_ret
    exact ⟨ret_i64 (by rw [HR.out]; omega), rfl⟩
  have HR := hide (show digR b = -1 by rw [HD.out, if_neg h1, if_neg h2, if_neg h3])
  clear HD
  have hc : b < 48 ∨ (57 < b ∧ b < 65) ∨ (70 < b ∧ b < 97) ∨ 102 < b := by omega
  rcases hc with hc | hc | hc | hc
  all_goals (
    try have q1 : (48 : Int) ≤ (b : Int) := by omega
    try have q1 : ¬ (48 : Int) ≤ (b : Int) := by omega
    try have q2 : ¬ (b : Int) ≤ 57 := by omega
    try have q3 : (97 : Int) ≤ (b : Int) := by omega
    try have q3 : ¬ (97 : Int) ≤ (b : Int) := by omega
    try have q4 : ¬ (b : Int) ≤ 102 := by omega
    try have q5 : (65 : Int) ≤ (b : Int) := by omega
    try have q5 : ¬ (65 : Int) ≤ (b : Int) := by omega
    try have q6 : ¬ (b : Int) ≤ 70 := by omega
    clear h1 h2 h3 hc
    go_enter Tryd.func64, Tryd.ntmps64
    go_wp2
    go_ret
    exact ⟨ret_i64 HR.out.symm, rfl⟩)
def sgnI (x : Int) : Nat := if x = 42 then 4 else if x = 43 then 5 else if x = 63 then 6 else 0
set_option maxRecDepth 100000 in
theorem rsign_any (x : Int) (w : World) : Calls Tryd.prog 43 #[.int .i64 x] w fun e w' => e = .returned (.int .i64 (sgnI x : Int)) ∧ w = w' := by
  by_cases h1 : x = 42
  · subst h1
    go_enter Tryd.func43, Tryd.ntmps43
    go_wp2
    go_ret
    exact ⟨rfl, rfl⟩
  by_cases h2 : x = 43
  · subst h2
    go_enter Tryd.func43, Tryd.ntmps43
    go_wp2
    go_ret
    exact ⟨rfl, rfl⟩
  by_cases h3 : x = 63
  · subst h3
    go_enter Tryd.func43, Tryd.ntmps43
    go_wp2
    go_ret
    exact ⟨rfl, rfl⟩
  have HR := hide (show sgnI x = 0 by unfold sgnI; rw [if_neg h1, if_neg h2, if_neg h3])
  have q1 : (x == 42) = false := by simpa using h1
  have q2 : (x == 43) = false := by simpa using h2
  have q3 : (x == 63) = false := by simpa using h3
  clear h1 h2 h3
  go_enter Tryd.func43, Tryd.ntmps43
  go_wp2
  go_ret
  exact ⟨ret_i64 (by rw [HR.out]; rfl), rfl⟩
end Go.Proofs.YtfamoikmfbpigaaDoor
