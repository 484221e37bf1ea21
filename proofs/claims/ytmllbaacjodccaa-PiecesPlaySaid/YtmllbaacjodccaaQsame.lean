/- Contracts of (*Text).Lines and limnerlaw03.Same. -/
import Derived.Test.YtmllbaacjodccaaQref
namespace Go.Proofs.Ytmllbaacjodccaa
open Go.RowKit
variable {R : Nat → Prop}

theorem count_lfs (s : ByteArray) : Go.Lib.countByte s.data.toList 10 = lfs s.data.toList := by
  unfold Go.Lib.countByte lfs
  rw [List.count_eq_countP, List.countP_eq_length_filter]
theorem lfs_jl_take (zs : List ByteArray) (k : Nat) (h : k < zs.length) : lfs (jl (zs.take (k + 1))) = lfs (jl (zs.take k)) + lfs (zs[k]?.getD ByteArray.empty).data.toList := by
  rw [lfs_jl, lfs_jl, List.take_succ_eq_append_getElem h, List.map_append, List.sum_append, List.getElem?_eq_getElem h]
  simp
theorem jl_len (zs : List ByteArray) : (jl zs).length = total zs := by
  have := joined_size zs
  unfold joined ByteArray.size at this
  unfold jl
  simpa using this
set_option maxHeartbeats 400000 in
theorem lines_any (p : Value) (zs : List ByteArray) (w : World) (h : TextAt R w p zs) (hz : total zs ≤ 1048576) (hl : zs.length ≤ 1048576) :
    Calls Try.prog 21 #[p] w fun e w' => e = .returned (.int .i64 ((1 + lfs (jl zs) : Nat) : Int)) ∧ w = w' := by
  have H := hide h
  obtain ⟨b, v, rfl, -, h0, h1, h2, A, cap, rfl, hc, hst⟩ := h
  have HS := hide hst
  clear hst
  go_enter Try.func21, Try.ntmps21
  go_wp2_with fail
  refine (none_text _ zs _ H.out).mono ?_; rintro e w1 ⟨rfl, rfl⟩
  go_wp2
  go_loop [3, 13] (fun n i => ∃ k m : Nat, n = .int .i64 m ∧ i = .int .i64 k ∧ k ≤ zs.length ∧ m ≤ 1 + 1048576 ∧ Hid (m = 1 + lfs (jl (zs.take k)))) (fun _ i => zs.length - (intOf i).toNat)
  case atStart => exact ⟨0, 1, rfl, rfl, by omega, by omega, hide (by simp [lfs, jl])⟩
  case round =>
    obtain ⟨k, m, rfl, rfl, hk, hm, HM⟩ := hrel
    by_cases hlt : k < zs.length
    · obtain ⟨b, o, rfl, -, hc0⟩ := HS.out k hlt
      have hst := lfs_jl_take zs k hlt
      have hle : lfs (jl (zs.take (k + 1))) ≤ 1048576 := by
        have h1 := lfs_le (jl (zs.take (k + 1)))
        rw [jl_len] at h1
        have := total_le zs (k + 1)
        omega
      generalize zs[k]?.getD ByteArray.empty = s at *
      have hb : m + lfs s.data.toList ≤ 1 + 1048576 := by rw [HM.out]; omega
      have HN := hide (show m + lfs s.data.toList = 1 + lfs (jl (zs.take (k + 1))) by rw [HM.out, hst]; omega)
      have HC := hide (count_lfs s)
      clear hst hle
      generalize lfs s.data.toList = x at *
      go_wp2_with (go_at_call 29; refine (Try.strings_Count_one s 10 _).mono ?_; rw [HC.out]; rintro e w1 ⟨rfl, rfl⟩)
      go_round
      case rel => exact ⟨k + 1, m + x, by go_num, by go_num, by omega, by omega, HN⟩
      case measure => simp [intOf]; omega
    · obtain rfl : k = zs.length := by omega
      have HN := hide (show m = 1 + lfs (jl zs) by rw [HM.out, List.take_length])
      go_wp2
      go_ret
      exact ⟨ret_i3 (by rw [HN.out]; simp), rfl⟩
theorem len_same (p : Value) (zs : List ByteArray) (s : ByteArray) (w : World) (h : TextAt R w p zs) (hj : joined zs = s) : Calls Try.prog 13 #[p] w fun e w' => e = .returned (.int .i64 (s.size : Nat)) ∧ Below w.heap.size w w' := by
  subst hj
  rw [joined_size]
  exact len_any p zs w h
theorem str_same (p : Value) (zs : List ByteArray) (s : ByteArray) (w : World) (h : TextAt R w p zs) (hj : joined zs = s) (hz : total zs ≤ 1048576) (hl : zs.length ≤ 1048576) : Calls Try.prog 12 #[p] w fun e w' => e = .returned (.string s) ∧ Below w.heap.size w w' := by
  subst hj
  exact str_any p zs w h hz hl
theorem lines_same (p : Value) (zs : List ByteArray) (s : ByteArray) (w : World) (h : TextAt R w p zs) (hj : joined zs = s) (hz : total zs ≤ 1048576) (hl : zs.length ≤ 1048576) : Calls Try.prog 21 #[p] w fun e w' => e = .returned (.int .i64 ((1 + lfs s.data.toList : Nat) : Int)) ∧ w = w' := by
  subst hj
  exact lines_any p zs w h hz hl
set_option maxHeartbeats 400000 in
theorem Same_any (p : Value) (zs : List ByteArray) (s : ByteArray) (w : World) (h : TextAt R w p zs) (hj : joined zs = s) (hz : total zs ≤ 100000) (hl : zs.length ≤ 100000) :
    Calls Try.prog 20 #[p, .string s] w fun e w' => e = .returned (.bool true) ∧ Below w.heap.size w w' := by
  have HT := hide h
  have HJ := hide hj
  have hs : s.size ≤ 100000 := by rw [← hj, joined_size]; omega
  clear h hj
  go_enter Try.func20, Try.ntmps20
  go_wp2_with fail
  refine (len_same p zs s _ HT.out HJ.out).mono ?_; rintro e w1 ⟨rfl, b1⟩
  have HB := hide b1
  replace HT := hide (HT.out.below b1)
  clear b1
  go_wp2_with fail
  refine (str_same p zs s _ HT.out HJ.out (by omega) (by omega)).mono ?_; rintro e w2 ⟨rfl, b1⟩
  replace HB := hide (HB.out.trans (b1.mono HB.out.size))
  replace HT := hide (HT.out.below b1)
  clear b1
  go_wp2_with fail
  refine (lines_same p zs s _ HT.out HJ.out (by omega) (by omega)).mono ?_; rintro e w3 ⟨rfl, rfl⟩
  go_wp2_with fail
  refine (rlines3 s _ hs).mono ?_; rintro e w3 ⟨rfl, rfl⟩
  go_wp2
  go_ret
  exact ⟨rfl, HB.out⟩
end Go.Proofs.Ytmllbaacjodccaa
