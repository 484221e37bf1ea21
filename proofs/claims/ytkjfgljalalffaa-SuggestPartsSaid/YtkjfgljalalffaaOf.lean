/- Contracts of limnerref33.Of, limnerlaw33.Great and strings.CutPrefix. -/
import Derived.Test.YtkjfgljalalffaaPart
namespace Go.Proofs.Ytkjfgljalalffaa
open Go.RowKit

/-- The slice value sv reads as the strings zs, in a block below n₀; or there are none. -/
def Strs (n₀ : Nat) (W : World) (sv : Value) (zs : List ByteArray) : Prop :=
  ∃ A cap, sv = .slice A zs.length cap ∧ (zs = [] ∨ ∃ b off, A = some ⟨b, off, none⟩ ∧ b < n₀ ∧ ∀ j, j < zs.length → W.cell? ⟨b, off + j, none⟩ = some (.string (zs[j]?.getD ByteArray.empty)))
theorem Strs.below {n₀ : Nat} {A B : World} (h : Below n₀ A B) {sv : Value} {zs : List ByteArray} : Strs n₀ A sv zs → Strs n₀ B sv zs
  | ⟨a, cap, e, .inl h0⟩ => ⟨a, cap, e, .inl h0⟩
  | ⟨a, cap, e, .inr ⟨b, off, ea, hb, hc⟩⟩ => ⟨a, cap, e, .inr ⟨b, off, ea, hb, fun j hj => (h.cell (p := ⟨b, off + j, none⟩) hb).trans (hc j hj)⟩⟩
theorem Strs.mono {n m : Nat} (h : n ≤ m) {A : World} {sv : Value} {zs : List ByteArray} : Strs n A sv zs → Strs m A sv zs
  | ⟨a, cap, e, .inl h0⟩ => ⟨a, cap, e, .inl h0⟩
  | ⟨a, cap, e, .inr ⟨b, off, ea, hb, hc⟩⟩ => ⟨a, cap, e, .inr ⟨b, off, ea, by omega, hc⟩⟩

/-- Does x begin with t, and is longer? -/
def hit (x t : ByteArray) : Bool := decide (t.size < x.size) && ((x.extract 0 t.size).toList == t.toList)
/-- What is suggested behind t by the first k of the entries zs. -/
def ofK (zs : List ByteArray) (t : ByteArray) : Nat → ByteArray
  | 0 => ⟨#[]⟩
  | k + 1 => if hit (zs[k]?.getD ByteArray.empty) t then (zs[k]?.getD ByteArray.empty).extract t.size (zs[k]?.getD ByteArray.empty).size else ofK zs t k
def ofS (zs : List ByteArray) (t : ByteArray) : ByteArray := if t.size = 0 then ⟨#[]⟩ else ofK zs t zs.length

theorem ofK_hit {zs : List ByteArray} {t x : ByteArray} {k : Nat} (hx : x = zs[k]?.getD ByteArray.empty) (h1 : t.size < x.size) (h2 : ((x.extract 0 t.size).toList == t.toList) = true) : ofK zs t (k + 1) = x.extract t.size x.size := by
  subst hx
  simp only [ofK, hit, h1, h2, decide_true, Bool.and_self, if_true]
theorem ofK_miss {zs : List ByteArray} {t x : ByteArray} {k : Nat} (hx : x = zs[k]?.getD ByteArray.empty) (h : ¬ t.size < x.size ∨ ((x.extract 0 t.size).toList == t.toList) = false) : ofK zs t (k + 1) = ofK zs t k := by
  subst hx
  have : hit (zs[k]?.getD ByteArray.empty) t = false := by
    rcases h with h | h <;> simp [hit, h]
  simp only [ofK, this]; rfl

set_option maxHeartbeats 400000 in
theorem rof_none (A : Option Addr) (cap : Nat) (t : ByteArray) (w : World) :
    Calls Try.prog 9 #[.slice A 0 cap, .string t] w fun e w' => e = .returned (.string ⟨#[]⟩) ∧ w = w' := by
  go_enter Try.func9, Try.ntmps9
  go_wp2
  go_loop [5] (fun i => i = .int .i64 (-1)) (fun _ => 0)
  case atStart => rfl
  case round =>
    subst hrel
    go_wp2
    go_ret
    exact ⟨rfl, rfl⟩

theorem ret_ofS {zs : List ByteArray} {t a : ByteArray} (ht : t.size ≠ 0) (h : a = ofK zs t zs.length) : Ending.returned (.string a) = .returned (.string (ofS zs t)) := by
  rw [ofS, if_neg ht, h]

set_option maxHeartbeats 400000 in
theorem rof_some (b off cap : Nat) (zs : List ByteArray) (t : ByteArray) (w : World) (hn : zs.length ≤ 17592186044415) (hts : t.size ≤ 1048576)
    (hc : ∀ j, j < zs.length → w.cell? ⟨b, off + j, none⟩ = some (.string (zs[j]?.getD ByteArray.empty))) :
    Calls Try.prog 9 #[.slice (some ⟨b, off, none⟩) zs.length cap, .string t] w fun e w' => e = .returned (.string (ofS zs t)) ∧ w = w' := by
  by_cases ht : t.size = 0
  · have hofs : ofS zs t = ⟨#[]⟩ := by rw [ofS, if_pos ht]
    have H := hide hofs
    clear hofs
    go_enter Try.func9, Try.ntmps9
    go_wp2
    go_loop [5] (fun i => i = .int .i64 (zs.length - 1)) (fun _ => 0)
    case atStart => rfl
    case round =>
      subst hrel
      go_wp2
      all_goals go_ret
      all_goals exact ⟨ret_str H.out.symm, rfl⟩
  · have h0 : 0 < t.size := by omega
    have HT := hide ht
    clear ht
    generalize hN : zs.length = N at hn hc ⊢
    have HN := hide hN
    have HC := hide hc
    clear hN hc
    go_enter Try.func9, Try.ntmps9
    go_wp2
    go_loop [5] (fun i => ∃ k : Int, -1 ≤ k ∧ k < N ∧ i = .int .i64 k ∧ Hid (ofK zs t (k + 1).toNat = ofK zs t zs.length)) (fun i => (intOf i + 1).toNat)
    case atStart => exact ⟨_, by omega, by omega, rfl, by rw [show ((N : Int) - 1 + 1).toNat = N by omega, HN.out]; exact rfl⟩
    case round =>
      obtain ⟨k, hk1, hk2, rfl, HK⟩ := hrel
      by_cases hk : k < 0
      · go_wp2
        go_ret
        exact ⟨ret_ofS HT.out (by rw [← HK.out, show (k + 1).toNat = 0 by omega]; rfl), rfl⟩
      · obtain ⟨j, rfl⟩ := Int.eq_ofNat_of_zero_le (show 0 ≤ k by omega)
        have hj : j < N := by omega
        have hcj := HC.out j hj
        obtain ⟨x, hx⟩ : ∃ x, x = zs[j]?.getD ByteArray.empty := ⟨_, rfl⟩
        rw [← hx] at hcj
        have HX := hide hx
        clear hx
        go_wp2
        · have h1 : t.size < x.size := by assumption
          have h2 : ((x.extract 0 t.size).toList == t.toList) = true := by assumption
          go_ret
          exact ⟨ret_ofS HT.out (by rw [← HK.out, show ((j : Int) + 1).toNat = j + 1 by omega, ofK_hit HX.out h1 h2]), rfl⟩
        · have h1 : t.size < x.size := by assumption
          have h2 : ((x.extract 0 t.size).toList == t.toList) = false := by assumption
          go_round
          case rel => exact ⟨(j : Int) - 1, by omega, by omega, rfl, by rw [← HK.out, show ((j : Int) + 1).toNat = j + 1 by omega, ofK_miss HX.out (.inr h2), show ((j : Int) - 1 + 1).toNat = j by omega]; exact rfl⟩
          case measure => simp [intOf]
        · have h1 : ¬ t.size < x.size := by assumption
          go_round
          case rel => exact ⟨(j : Int) - 1, by omega, by omega, rfl, by rw [← HK.out, show ((j : Int) + 1).toNat = j + 1 by omega, ofK_miss HX.out (.inl h1), show ((j : Int) - 1 + 1).toNat = j by omega]; exact rfl⟩
          case measure => simp [intOf]

/-- limnerref33.Of, of whatever slice. -/
theorem rof_any (n₀ : Nat) (sv : Value) (zs : List ByteArray) (t : ByteArray) (w : World) (hn : zs.length ≤ 17592186044415) (hts : t.size ≤ 1048576) (hI : Strs n₀ w sv zs) :
    Calls Try.prog 9 #[sv, .string t] w fun e w' => e = .returned (.string (ofS zs t)) ∧ w = w' := by
  obtain ⟨A, cap, rfl, rfl | ⟨b, off, rfl, hb, hc⟩⟩ := hI
  · refine (rof_none A cap t w).mono fun e w' ⟨he, hw⟩ => ⟨he.trans (ret_str ?_), hw⟩
    unfold ofS
    split <;> rfl
  · exact rof_some b off cap zs t w hn hts hc

/-- Are entries more than is gone through here? -/
def great (zs : List ByteArray) (m : Nat) : Bool := zs.any (fun x => decide (200 < x.size)) || decide (m < zs.length)
theorem great_all {zs : List ByteArray} {m : Nat} (h : great zs m = false) : zs.length ≤ m ∧ ∀ j, j < zs.length → (zs[j]?.getD ByteArray.empty).size ≤ 200 := by
  simp only [great, Bool.or_eq_false_iff, List.any_eq_false, decide_eq_true_eq, decide_eq_false_iff_not] at h
  refine ⟨by omega, fun j hj => ?_⟩
  have := h.1 zs[j] (List.getElem_mem hj)
  simp [hj]; omega

set_option maxHeartbeats 400000 in
theorem great_none (A : Option Addr) (cap m : Nat) (w : World) (_hm : m ≤ 1000) :
    Calls Try.prog 6 #[.slice A 0 cap, .int .i64 m] w fun e w' => e = .returned (.bool (great [] m)) ∧ w = w' := by
  go_enter Try.func6, Try.ntmps6
  go_wp2
  go_loop [5] (fun i => i = .int .i64 0) (fun _ => 0)
  case atStart => rfl
  case round =>
    subst hrel
    go_wp2
    go_ret
    exact ⟨by simp [great], rfl⟩

theorem ret_bool {a b : Bool} (h : a = b) : Ending.returned (.bool a) = .returned (.bool b) := by rw [h]
theorem great_yes {zs : List ByteArray} {m j : Nat} {x : ByteArray} (hj : j < zs.length) (hx : x = zs[j]?.getD ByteArray.empty) (h : 200 < x.size) : great zs m = true := by
  subst hx
  simp only [great, Bool.or_eq_true, List.any_eq_true, decide_eq_true_eq]
  exact .inl ⟨zs[j], List.getElem_mem hj, by simpa [hj] using h⟩
theorem great_end {zs : List ByteArray} {m N : Nat} (hN : zs.length = N) (h : (zs.take N).any (fun x => decide (200 < x.size)) = false) : decide (m < N) = great zs m := by
  rw [← hN, List.take_length] at h
  rw [great, h, hN]; simp
theorem any_step {zs : List ByteArray} {j : Nat} {x : ByteArray} (hj : j < zs.length) (hx : x = zs[j]?.getD ByteArray.empty) (h : (zs.take j).any (fun x => decide (200 < x.size)) = false) (h2 : x.size ≤ 200) : (zs.take (j + 1)).any (fun x => decide (200 < x.size)) = false := by
  subst hx
  rw [List.take_succ_eq_append_getElem hj, List.any_append, h]
  simp [hj] at h2 ⊢
  omega

set_option maxHeartbeats 400000 in
theorem great_some (b off cap : Nat) (zs : List ByteArray) (m : Nat) (w : World) (_hm : m ≤ 1000) (hn : zs.length ≤ 17592186044415)
    (hc : ∀ j, j < zs.length → w.cell? ⟨b, off + j, none⟩ = some (.string (zs[j]?.getD ByteArray.empty))) :
    Calls Try.prog 6 #[.slice (some ⟨b, off, none⟩) zs.length cap, .int .i64 m] w fun e w' => e = .returned (.bool (great zs m)) ∧ w = w' := by
  generalize hN : zs.length = N at hn hc ⊢
  have HN := hide hN
  have HC := hide hc
  clear hN hc
  go_enter Try.func6, Try.ntmps6
  go_wp2
  go_loop [5] (fun i => ∃ k : Nat, k ≤ N ∧ i = .int .i64 k ∧ Hid ((zs.take k).any (fun x => decide (200 < x.size)) = false)) (fun i => N - (intOf i).toNat)
  case atStart => exact ⟨0, by omega, rfl, by simp [Hid]⟩
  case round =>
    obtain ⟨j, hj', rfl, HK⟩ := hrel
    by_cases hj : j < N
    · have hcj := HC.out j hj
      obtain ⟨x, hx⟩ : ∃ x, x = zs[j]?.getD ByteArray.empty := ⟨_, rfl⟩
      rw [← hx] at hcj
      have HX := hide hx
      clear hx
      go_wp2
      · have h1 : 200 < (x.size : Int) := by assumption
        go_ret
        exact ⟨ret_bool (great_yes (by rw [HN.out]; exact hj) HX.out (by omega)).symm, rfl⟩
      · have h1 : (x.size : Int) ≤ 200 := by assumption
        go_round
        case rel => exact ⟨j + 1, by omega, by go_num, any_step (by rw [HN.out]; exact hj) HX.out HK.out (by omega)⟩
        case measure => simp [intOf]; omega
    · go_wp2
      go_ret
      exact ⟨ret_bool (great_end HN.out (by rw [show N = j by omega]; exact HK.out)), rfl⟩

/-- limnerlaw33.Great, of whatever slice. -/
theorem great_any (n₀ : Nat) (sv : Value) (zs : List ByteArray) (m : Nat) (w : World) (hm : m ≤ 1000) (hn : zs.length ≤ 17592186044415) (hI : Strs n₀ w sv zs) :
    Calls Try.prog 6 #[sv, .int .i64 m] w fun e w' => e = .returned (.bool (great zs m)) ∧ w = w' := by
  obtain ⟨A, cap, rfl, rfl | ⟨b, off, rfl, hb, hc⟩⟩ := hI
  · exact great_none A cap m w hm
  · exact great_some b off cap zs m w hm hn hc

/-- strings.CutPrefix. -/
def cutOk (x t : ByteArray) : Bool := decide (t.size ≤ x.size) && ((x.extract 0 t.size).toList == t.toList)
def cutS (x t : ByteArray) : ByteArray := if cutOk x t then x.extract t.size x.size else x
theorem ret_cut {a b : ByteArray} {p q : Bool} (h : a = b) (h' : p = q) : Ending.returned (.tuple #[.string a, .bool p]) = .returned (.tuple #[.string b, .bool q]) := by rw [h, h']

set_option maxHeartbeats 400000 in
theorem cut_any (x t : ByteArray) (w : World) :
    Calls Try.prog 13 #[.string x, .string t] w fun e w' => e = .returned (.tuple #[.string (cutS x t), .bool (cutOk x t)]) ∧ w = w' := by
  go_enter Try.func13, Try.ntmps13
  go_wp2
  · have h1 : t.size ≤ x.size := by assumption
    have h2 : (!(x.extract 0 t.size).toList == t.toList) = true := by assumption
    have h3 : ((x.extract 0 t.size).toList == t.toList) = false := by simpa using h2
    have hc : cutOk x t = false := by rw [cutOk, h3, Bool.and_false]
    go_ret2
    exact ⟨ret_cut (by rw [cutS, hc]; rfl) hc.symm, rfl⟩
  · have h1 : t.size ≤ x.size := by assumption
    have h2 : (!(x.extract 0 t.size).toList == t.toList) = false := by assumption
    have h3 : ((x.extract 0 t.size).toList == t.toList) = true := by simpa using h2
    have hc : cutOk x t = true := by rw [cutOk, h3, Bool.and_true, decide_eq_true h1]
    go_ret2
    exact ⟨ret_cut (by rw [cutS, hc]; rfl) hc.symm, rfl⟩
  · have h1 : ¬ t.size ≤ x.size := by assumption
    have hc : cutOk x t = false := by rw [cutOk, decide_eq_false h1, Bool.false_and]
    go_ret2
    exact ⟨ret_cut (by rw [cutS, hc]; rfl) hc.symm, rfl⟩

end Go.Proofs.Ytkjfgljalalffaa
