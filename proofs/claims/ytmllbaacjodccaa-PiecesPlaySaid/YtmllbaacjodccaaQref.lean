/- Contracts of limnerref03, and of what is refused. -/
import Derived.Test.YtmllbaacjodccaaQcount
import Derived.Test.YtmllbaacjodccaaQall
namespace Go.Proofs.Ytmllbaacjodccaa
open Go.RowKit
variable {R : Nat → Prop}

theorem ret_si {a b : ByteArray} {m n : Int} (h : a = b) (h2 : m = n) : Ending.returned (.tuple #[.string a, .int .i64 m]) = .returned (.tuple #[.string b, .int .i64 n]) := by rw [h, h2]
theorem ret_s3 {a b : ByteArray} (h : a = b) : Ending.returned (.string a) = .returned (.string b) := by rw [h]
theorem ret_i3 {a b : Int} (h : a = b) : Ending.returned (.int .i64 a) = .returned (.int .i64 b) := by rw [h]
theorem rnew3 (s : ByteArray) (w : World) (hs : s.size ≤ 9223372036854775807) : Calls Try.prog 15 #[.string s] w fun e w' => e = .returned (if 16384 < s.size then .tuple #[.string ⟨#[]⟩, .int .i64 60] else .tuple #[.string s, .int .i64 0]) ∧ w = w' := by
  by_cases h : 16384 < s.size
  · have h' : (16384 : Int) < (s.size : Int) := by omega
    rw [if_pos h]
    go_enter Try.func15, Try.ntmps15
    go_wp2
    go_ret2
    exact ⟨rfl, rfl⟩
  · have h' : ¬ (16384 : Int) < (s.size : Int) := by omega
    rw [if_neg h]
    go_enter Try.func15, Try.ntmps15
    go_wp2
    go_ret2
    exact ⟨rfl, rfl⟩
theorem rslice3 (t : ByteArray) (f g : Int) (w : World) (ht : t.size ≤ 100000) : Calls Try.prog 18 #[.string t, .int .i64 f, .int .i64 g] w fun e w' => e = .returned (.string (refSlice t f g)) ∧ w = w' := by
  by_cases h : f < 0 ∨ (t.size : Int) < g ∨ g < f
  · have HR := hide (show refSlice t f g = ⟨#[]⟩ by unfold refSlice; rw [if_pos h])
    by_cases h1 : f < 0
    · go_enter Try.func18, Try.ntmps18
      go_wp2
      go_ret
      exact ⟨ret_s3 HR.out.symm, rfl⟩
    by_cases h2 : (t.size : Int) < g
    · clear h
      go_enter Try.func18, Try.ntmps18
      go_wp2
      go_ret
      exact ⟨ret_s3 HR.out.symm, rfl⟩
    · have h3 : g < f := by omega
      clear h
      go_enter Try.func18, Try.ntmps18
      go_wp2
      go_ret
      exact ⟨ret_s3 HR.out.symm, rfl⟩
  · obtain ⟨a, rfl⟩ : ∃ a : Nat, f = a := ⟨f.toNat, by omega⟩
    obtain ⟨b, rfl⟩ : ∃ b : Nat, g = b := ⟨g.toNat, by omega⟩
    have HR := hide (show refSlice t a b = t.extract a b by unfold refSlice; rw [if_neg h]; simp)
    have h1 : ¬ (a : Int) < 0 := by omega
    have h2 : ¬ (t.size : Int) < (b : Int) := by omega
    have h3 : ¬ (b : Int) < (a : Int) := by omega
    have h4 : a ≤ b := by omega
    have h5 : b ≤ t.size := by omega
    clear h
    go_enter Try.func18, Try.ntmps18
    go_wp2
    go_ret
    exact ⟨ret_s3 HR.out.symm, rfl⟩
set_option maxHeartbeats 400000 in
theorem rlines3 (t : ByteArray) (w : World) (ht : t.size ≤ 100000) : Calls Try.prog 28 #[.string t] w fun e w' => e = .returned (.int .i64 ((1 + lfs t.data.toList : Nat) : Int)) ∧ w = w' := by
  go_enter Try.func28, Try.ntmps28
  go_wp2
  go_loop [3, 4] (fun n i => ∃ k m : Nat, n = .int .i64 m ∧ i = .int .i64 k ∧ k ≤ t.size ∧ m ≤ 1 + k ∧ Hid (m = 1 + lfs (t.data.toList.take k))) (fun _ i => t.size - (intOf i).toNat)
  case atStart => exact ⟨0, 1, rfl, rfl, by omega, by omega, hide (by simp [lfs])⟩
  case round =>
    obtain ⟨k, m, rfl, rfl, hk, hm, H⟩ := hrel
    by_cases hlt : k < t.size
    · have hst := lfs_take hlt
      by_cases hc : t[k] = 10
      · have hc2 : ((t[k].toNat : Int) == 10) = true := by rw [hc]; rfl
        rw [if_pos hc] at hst
        have HS := hide (show m + 1 = 1 + lfs (t.data.toList.take (k + 1)) by rw [hst, H.out]; omega)
        clear hc hst
        go_wp2
        go_round
        case rel => exact ⟨k + 1, m + 1, by go_num, by go_num, by omega, by omega, HS⟩
        case measure => simp [intOf]; omega
      · have hc2 : ((t[k].toNat : Int) == 10) = false := by
          rw [beq_eq_false_iff_ne]
          intro e
          apply hc
          apply UInt8.toNat_inj.1
          show (t[k]).toNat = 10
          omega
        rw [if_neg hc] at hst
        have HS := hide (show m = 1 + lfs (t.data.toList.take (k + 1)) by rw [hst, H.out]; omega)
        clear hc hst
        go_wp2
        go_round
        case rel => exact ⟨k + 1, m, rfl, by go_num, by omega, by omega, HS⟩
        case measure => simp [intOf]; omega
    · have HS := hide (show m = 1 + lfs t.data.toList by rw [H.out, List.take_of_length_le (by rw [Array.length_toList]; show t.size ≤ k; omega)])
      go_wp2
      go_ret
      exact ⟨ret_i3 (by rw [HS.out]; simp), rfl⟩
theorem rins3 (t : ByteArray) (a : Int) (s : ByteArray) (w : World) (ht : t.size ≤ 16384) (hs : s.size ≤ 100000) : Calls Try.prog 19 #[.string t, .int .i64 a, .string s] w fun e w' => e = .returned (.tuple #[.string (refIns t a s).1, .int .i64 (refIns t a s).2]) ∧ Below w.heap.size w w' := by
  by_cases h : a < 0 ∨ (t.size : Int) < a
  · have HR := hide (show refIns t a s = (⟨#[]⟩, 2) by unfold refIns; rw [if_pos h])
    by_cases h1 : a < 0
    · go_enter Try.func19, Try.ntmps19
      go_wp2
      go_ret2
      exact ⟨ret_si (by rw [HR.out]) (by rw [HR.out]), Below.refl _ _⟩
    · have h2 : (t.size : Int) < a := by omega
      clear h
      go_enter Try.func19, Try.ntmps19
      go_wp2
      go_ret2
      exact ⟨ret_si (by rw [HR.out]) (by rw [HR.out]), Below.refl _ _⟩
  obtain ⟨k, rfl⟩ : ∃ k : Nat, a = k := ⟨a.toNat, by omega⟩
  have h1 : ¬ (k : Int) < 0 := by omega
  have h2 : ¬ (t.size : Int) < (k : Int) := by omega
  have h3 : k ≤ t.size := by omega
  by_cases hf : 16384 < t.size + s.size
  · have HR := hide (show refIns t k s = (⟨#[]⟩, 60) by unfold refIns; rw [if_neg h, if_pos hf])
    by_cases hf1 : (16384 : Int) < (s.size : Int)
    · clear h
      go_enter Try.func19, Try.ntmps19
      go_wp2
      go_ret2
      exact ⟨ret_si (by rw [HR.out]) (by rw [HR.out]), Below.refl _ _⟩
    · have hf2 : (16384 : Int) < (t.size : Int) + (s.size : Int) := by omega
      clear h
      go_enter Try.func19, Try.ntmps19
      go_wp2
      go_ret2
      exact ⟨ret_si (by rw [HR.out]) (by rw [HR.out]), Below.refl _ _⟩
  · have HR := hide (show refIns t k s = (t.extract 0 k ++ s ++ t.extract k t.size, 0) by unfold refIns; rw [if_neg h, if_neg hf]; simp)
    have hf1 : ¬ (16384 : Int) < (s.size : Int) := by omega
    have hf2 : ¬ (16384 : Int) < (t.size : Int) + (s.size : Int) := by omega
    have z1 : (t.extract 0 k).size = k := by rw [ByteArray.size_extract]; omega
    have z2 : (t.extract k t.size).size = t.size - k := by rw [ByteArray.size_extract]; omega
    clear h
    go_enter Try.func19, Try.ntmps19
    go_wp2
    go_region
    go_wp2
    go_ret2
    exact ⟨ret_si (by rw [HR.out]) (by rw [HR.out]), below_drewP (Below.refl _ _)⟩
theorem rdel3 (t : ByteArray) (f g : Int) (w : World) (ht : t.size ≤ 16384) : Calls Try.prog 16 #[.string t, .int .i64 f, .int .i64 g] w fun e w' => e = .returned (.tuple #[.string (refDel t f g).1, .int .i64 (refDel t f g).2]) ∧ Below w.heap.size w w' := by
  by_cases h : f < 0 ∨ (t.size : Int) < g ∨ g < f
  · have HR := hide (show refDel t f g = (⟨#[]⟩, 2) by unfold refDel; rw [if_pos h])
    by_cases h1 : f < 0
    · go_enter Try.func16, Try.ntmps16
      go_wp2
      go_ret2
      exact ⟨ret_si (by rw [HR.out]) (by rw [HR.out]), Below.refl _ _⟩
    by_cases h2 : (t.size : Int) < g
    · clear h
      go_enter Try.func16, Try.ntmps16
      go_wp2
      go_ret2
      exact ⟨ret_si (by rw [HR.out]) (by rw [HR.out]), Below.refl _ _⟩
    · have h3 : g < f := by omega
      clear h
      go_enter Try.func16, Try.ntmps16
      go_wp2
      go_ret2
      exact ⟨ret_si (by rw [HR.out]) (by rw [HR.out]), Below.refl _ _⟩
  · obtain ⟨a, rfl⟩ : ∃ a : Nat, f = a := ⟨f.toNat, by omega⟩
    obtain ⟨b, rfl⟩ : ∃ b : Nat, g = b := ⟨g.toNat, by omega⟩
    have HR := hide (show refDel t a b = (t.extract 0 a ++ t.extract b t.size, 0) by unfold refDel; rw [if_neg h]; simp)
    have h1 : ¬ (a : Int) < 0 := by omega
    have h2 : ¬ (t.size : Int) < (b : Int) := by omega
    have h3 : ¬ (b : Int) < (a : Int) := by omega
    have h4 : a ≤ t.size := by omega
    have h5 : b ≤ t.size := by omega
    have z1 : (t.extract 0 a).size = a := by rw [ByteArray.size_extract]; omega
    have z2 : (t.extract b t.size).size = t.size - b := by rw [ByteArray.size_extract]; omega
    clear h
    go_enter Try.func16, Try.ntmps16
    go_wp2
    go_region
    go_wp2
    go_ret2
    exact ⟨ret_si (by rw [HR.out]) (by rw [HR.out]), below_drewP (Below.refl _ _)⟩
end Go.Proofs.Ytmllbaacjodccaa
