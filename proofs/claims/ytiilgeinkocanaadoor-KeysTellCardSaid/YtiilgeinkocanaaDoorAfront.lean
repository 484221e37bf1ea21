/- Plain: the front of a rune's bytes. No program in sight. -/
import Derived.Test.YtiilgeinkocanaaDoorAplain
namespace Go.Proofs.YtiilgeinkocanaaDoor

theorem take_byte {s : ByteArray} {k : Nat} (h : k < s.size) : s.data.toList.take (k + 1) = s.data.toList.take k ++ [s[k]] := by
  rw [List.take_succ_eq_append_getElem (by simpa using h)]; rfl
theorem ext_push {s : ByteArray} {k : Nat} (h : k < s.size) : s.extract 0 k ++ strOfNums [((s.get! k).toNat : Int)] = s.extract 0 (k + 1) := by
  have e : strOfNums [((s.get! k).toNat : Int)] = ⟨#[s.get! k]⟩ := by
    show (⟨#[UInt8.ofNat ((s.get! k).toNat : Int).toNat]⟩ : ByteArray) = _
    rw [Int.toNat_natCast, UInt8.ofNat_toNat]
  rw [e]
  apply ByteArray.ext
  rw [ByteArray.data_append, ByteArray.data_extract, ByteArray.data_extract, get_of h]
  apply Array.ext'
  simp only [Array.toList_append, Array.toList_extract, List.extract_eq_take_drop, List.drop_zero, Nat.sub_zero]
  exact (take_byte h).symm
theorem ext_get0 {s : ByteArray} {k i : Nat} (h : i < k) (hk : k ≤ s.size) : (s.extract 0 k).get! i = s.get! i := by
  have hz : (s.extract 0 k).size = k := by simp; omega
  rw [get_of (by omega), get_of (by omega)]
  have : (s.extract 0 k).data[i]'(by show i < (s.extract 0 k).size; omega) = s.data[i]'(by show i < s.size; omega) := by
    simp only [ByteArray.data_extract, Array.getElem_extract, Nat.zero_add]
  exact this
theorem beg_front {s : ByteArray} (h : 2 ≤ s.size) (hw : wholeB s = true) {k : Nat} (h1 : 1 ≤ k) (hk : k < s.size) : begB (s.extract 0 k) = true := by
  obtain ⟨e0, e1, e2, e3⟩ := (whole_iff s h).1 hw
  have hz : (s.extract 0 k).size = k := by simp; omega
  unfold begB
  rw [decide_eq_true_eq, hz, ext_get0 (by omega) (by omega)]
  have hn := need_le (s.get! 0).toNat
  refine ⟨h1, by omega, fun h2 => by rw [ext_get0 h2 (by omega)]; exact e1, fun h2 => by rw [ext_get0 h2 (by omega)]; exact e2 (by omega)⟩
theorem whole_front {s : ByteArray} (h : 2 ≤ s.size) (hw : wholeB s = true) {k : Nat} (h1 : 2 ≤ k) (hk : k < s.size) : wholeB (s.extract 0 k) = false := by
  obtain ⟨e0, e1, e2, e3⟩ := (whole_iff s h).1 hw
  have hz : (s.extract 0 k).size = k := by simp; omega
  cases hb : wholeB (s.extract 0 k)
  · rfl
  · have := ((whole_iff (s.extract 0 k) (by omega)).1 hb).1
    rw [hz, ext_get0 (by omega) (by omega)] at this
    omega
end Go.Proofs.YtiilgeinkocanaaDoor
