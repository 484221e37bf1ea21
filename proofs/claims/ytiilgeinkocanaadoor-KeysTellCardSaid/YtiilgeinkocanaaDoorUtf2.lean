/- More plain facts on UTF-8: what is encoded is decoded. No program in sight. -/
import Derived.Test.YtiilgeinkocanaaDoorUtf
namespace Go.Proofs.YtiilgeinkocanaaDoor

theorem dec_1 {s : ByteArray} {i r : Nat} (h0 : (s.get! i).toNat = r) (hr : r < 128) : Utf8.decode s i = (r, 1) := by
  unfold Utf8.decode; simp only [Nat.add_zero]; rw [if_pos (by omega), h0]
theorem dec_2 {s : ByteArray} {i r : Nat} (h0 : (s.get! i).toNat = 192 + r / 64) (h1 : (s.get! (i + 1)).toNat = 128 + r % 64) (hi : i + 2 ≤ s.size) (hr : 128 ≤ r) (hr2 : r < 2048) : Utf8.decode s i = (r, 2) := by
  have e : (s.get! i).toNat % 32 * 64 + (s.get! (i + 1)).toNat % 64 = r := by omega
  unfold Utf8.decode; simp only [Nat.add_zero]
  rw [if_neg (by omega), if_pos (by simp; omega)]
  simp only [e]
  rw [if_pos (by omega)]
theorem dec_3 {s : ByteArray} {i r : Nat} (h0 : (s.get! i).toNat = 224 + r / 4096) (h1 : (s.get! (i + 1)).toNat = 128 + r / 64 % 64) (h2 : (s.get! (i + 2)).toNat = 128 + r % 64) (hi : i + 3 ≤ s.size) (hr : 2048 ≤ r) (hr2 : r < 65536) (hv : r < 55296 ∨ 57344 ≤ r) : Utf8.decode s i = (r, 3) := by
  have e : (s.get! i).toNat % 16 * 4096 + (s.get! (i + 1)).toNat % 64 * 64 + (s.get! (i + 2)).toNat % 64 = r := by omega
  unfold Utf8.decode; simp only [Nat.add_zero]
  rw [if_neg (by omega), if_neg (by simp; omega), if_pos (by simp; omega)]
  simp only [e]
  rw [if_pos (by rw [Bool.and_eq_true, valid_of (by omega)]; simp; omega)]
theorem dec_4 {s : ByteArray} {i r : Nat} (h0 : (s.get! i).toNat = 240 + r / 262144) (h1 : (s.get! (i + 1)).toNat = 128 + r / 4096 % 64) (h2 : (s.get! (i + 2)).toNat = 128 + r / 64 % 64) (h3 : (s.get! (i + 3)).toNat = 128 + r % 64) (hi : i + 4 ≤ s.size) (hr : 65536 ≤ r) (hr2 : r ≤ 1114111) : Utf8.decode s i = (r, 4) := by
  have e : (s.get! i).toNat % 8 * 262144 + (s.get! (i + 1)).toNat % 64 * 4096 + (s.get! (i + 2)).toNat % 64 * 64 + (s.get! (i + 3)).toNat % 64 = r := by omega
  unfold Utf8.decode; simp only [Nat.add_zero]
  rw [if_neg (by omega), if_neg (by simp; omega), if_neg (by simp; omega), if_pos (by simp; omega)]
  simp only [e]
  rw [if_pos (by rw [Bool.and_eq_true, valid_of (by omega)]; simp; omega)]

theorem get_list {s : ByteArray} {i k : Nat} {l : List UInt8} (h : s.extract i (i + l.length) = ⟨l.toArray⟩) (hs : i + l.length ≤ s.size) (hk : k < l.length) : s.get! (i + k) = l[k] := by
  rw [ext_get s i l.length hs, list_eq] at h
  have := congrArg (fun m => m[k]?) h
  simp [hk] at this
  exact this
theorem ofNat_toNat {n : Nat} (h : n < 256) : (UInt8.ofNat n).toNat = n := by simp; omega

/-- A rune is read as it was put, whatever stands around it. -/
theorem decode_put {s : ByteArray} {i : Nat} {r : Int} (hv : (0 ≤ r ∧ r < 55296) ∨ (57344 ≤ r ∧ r ≤ 1114111)) (h : s.extract i (i + (putS r).size) = putS r) (hs : i + (putS r).size ≤ s.size) : Utf8.decode s i = (r.toNat, (putS r).size) ∧ 1 ≤ (putS r).size ∧ (putS r).size ≤ 4 := by
  rcases put_cases r with ⟨e, b⟩ | ⟨e, b⟩ | ⟨e, b⟩ | ⟨e, b⟩ | ⟨e, b⟩
  · omega
  · have z : (putS r).size = 1 := by rw [e]; rfl
    rw [z] at hs h ⊢
    rw [e] at h
    have g0 := get_list (l := [UInt8.ofNat r.toNat]) h hs (k := 0) (by simp)
    exact ⟨dec_1 (by simpa using (congrArg UInt8.toNat g0).trans (ofNat_toNat (by omega))) (by omega), by omega, by omega⟩
  · have z : (putS r).size = 2 := by rw [e]; rfl
    rw [z] at hs h ⊢
    rw [e] at h
    have g0 := get_list (l := [UInt8.ofNat (192 + r / 64).toNat, UInt8.ofNat (128 + r % 64).toNat]) h hs (k := 0) (by simp)
    have g1 := get_list (l := [UInt8.ofNat (192 + r / 64).toNat, UInt8.ofNat (128 + r % 64).toNat]) h hs (k := 1) (by simp)
    have t0 := (congrArg UInt8.toNat g0).trans (ofNat_toNat (by omega))
    have t1 := (congrArg UInt8.toNat g1).trans (ofNat_toNat (by omega))
    rw [Nat.add_zero] at t0
    exact ⟨dec_2 (r := r.toNat) (by omega) (by omega) hs (by omega) (by omega), by omega, by omega⟩
  · have z : (putS r).size = 3 := by rw [e]; rfl
    rw [z] at hs h ⊢
    rw [e] at h
    have g0 := get_list (l := [UInt8.ofNat (224 + r / 4096).toNat, UInt8.ofNat (128 + r / 64 % 64).toNat, UInt8.ofNat (128 + r % 64).toNat]) h hs (k := 0) (by simp)
    have g1 := get_list (l := [UInt8.ofNat (224 + r / 4096).toNat, UInt8.ofNat (128 + r / 64 % 64).toNat, UInt8.ofNat (128 + r % 64).toNat]) h hs (k := 1) (by simp)
    have g2 := get_list (l := [UInt8.ofNat (224 + r / 4096).toNat, UInt8.ofNat (128 + r / 64 % 64).toNat, UInt8.ofNat (128 + r % 64).toNat]) h hs (k := 2) (by simp)
    have t0 := (congrArg UInt8.toNat g0).trans (ofNat_toNat (by omega))
    have t1 := (congrArg UInt8.toNat g1).trans (ofNat_toNat (by omega))
    have t2 := (congrArg UInt8.toNat g2).trans (ofNat_toNat (by omega))
    rw [Nat.add_zero] at t0
    exact ⟨dec_3 (r := r.toNat) (by omega) (by omega) (by omega) hs (by omega) (by omega) (by omega), by omega, by omega⟩
  · have z : (putS r).size = 4 := by rw [e]; rfl
    rw [z] at hs h ⊢
    rw [e] at h
    have g0 := get_list (l := [UInt8.ofNat (240 + r / 262144).toNat, UInt8.ofNat (128 + r / 4096 % 64).toNat, UInt8.ofNat (128 + r / 64 % 64).toNat, UInt8.ofNat (128 + r % 64).toNat]) h hs (k := 0) (by simp)
    have g1 := get_list (l := [UInt8.ofNat (240 + r / 262144).toNat, UInt8.ofNat (128 + r / 4096 % 64).toNat, UInt8.ofNat (128 + r / 64 % 64).toNat, UInt8.ofNat (128 + r % 64).toNat]) h hs (k := 1) (by simp)
    have g2 := get_list (l := [UInt8.ofNat (240 + r / 262144).toNat, UInt8.ofNat (128 + r / 4096 % 64).toNat, UInt8.ofNat (128 + r / 64 % 64).toNat, UInt8.ofNat (128 + r % 64).toNat]) h hs (k := 2) (by simp)
    have g3 := get_list (l := [UInt8.ofNat (240 + r / 262144).toNat, UInt8.ofNat (128 + r / 4096 % 64).toNat, UInt8.ofNat (128 + r / 64 % 64).toNat, UInt8.ofNat (128 + r % 64).toNat]) h hs (k := 3) (by simp)
    have t0 := (congrArg UInt8.toNat g0).trans (ofNat_toNat (by omega))
    have t1 := (congrArg UInt8.toNat g1).trans (ofNat_toNat (by omega))
    have t2 := (congrArg UInt8.toNat g2).trans (ofNat_toNat (by omega))
    have t3 := (congrArg UInt8.toNat g3).trans (ofNat_toNat (by omega))
    rw [Nat.add_zero] at t0
    exact ⟨dec_4 (r := r.toNat) (by omega) (by omega) (by omega) (by omega) hs (by omega) (by omega), by omega, by omega⟩
theorem extract_whole (s : ByteArray) : s.extract 0 (0 + s.size) = s := by
  rw [Nat.zero_add, Lib.extract_eq]; cases s with | mk d => cases d with | mk l => simp [ByteArray.size]
theorem decode_alone {r : Int} (hv : (0 ≤ r ∧ r < 55296) ∨ (57344 ≤ r ∧ r ≤ 1114111)) : Utf8.decode (putS r) 0 = (r.toNat, (putS r).size) ∧ 1 ≤ (putS r).size ∧ (putS r).size ≤ 4 :=
  decode_put hv (extract_whole _) (by omega)
end Go.Proofs.YtiilgeinkocanaaDoor
