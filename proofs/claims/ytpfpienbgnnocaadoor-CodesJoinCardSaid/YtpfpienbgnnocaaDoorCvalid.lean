/- Contract of limnerref01.Valid; Next and Back at any place. -/
import Derived.Test.YtpfpienbgnnocaaDoorCread
import Derived.Test.YtpfpienbgnnocaaDoorCplain
namespace Go.Proofs.YtpfpienbgnnocaaDoor
open Go.RowKit

theorem all_step {s : ByteArray} {L : List Nat} {k x : Nat} {T : Bool} (hk : k < L.length) (hx : x = L[k]?.getD 0) (h : T = (L.drop k).all fun k => (dec3 s k).2.2) : T = ((dec3 s x).2.2 && (L.drop (k + 1)).all fun k => (dec3 s k).2.2) := by
  rw [List.drop_eq_getElem_cons hk] at h
  simp only [List.getElem?_eq_getElem hk, Option.getD_some] at hx
  subst hx
  exact h
theorem ret_bool {a b : Bool} (h : a = b) : Ending.returned (.bool a) = .returned (.bool b) := by rw [h]

set_option maxHeartbeats 1000000 in
theorem rvalid_any (s : ByteArray) (w : World) (hs : s.size ≤ 1048576) :
    Calls Tryd.prog 19 #[.string s] w fun e w' => e = .returned (.bool (validS s)) ∧ Below w.heap.size w w' := by
  go_enter Tryd.func19, Tryd.ntmps19
  go_wp2_with (go_at_call 14; refine (starts_any s _ hs).mono ?_; rintro e w1 ⟨A, c, rfl, hown, hb1⟩)
  have hlen := starts_len s
  have HN := hide (NatsAt.of_own hown)
  have hlt := starts_lt s s.size 0
  have HALL := hide (valid_starts s)
  rw [show startsFrom s s.size 0 = starts s from rfl] at hlt
  generalize starts s = L at *
  have HLT := hide hlt
  clear hown hlt
  go_loopw [4] (fun i wr => ∃ (k : Nat), k ≤ L.length ∧ i = .int .i64 k ∧ Hid (validS s = (L.drop k).all fun k => (dec3 s k).2.2) ∧ Hid (NatsAt A L wr) ∧ Below w.heap.size w wr) (fun i _ => L.length - (intOf i).toNat)
  case atStart => exact ⟨0, by omega, rfl, by rw [List.drop_zero]; exact HALL.out, HN, hb1⟩
  case round =>
    obtain ⟨k, hk, rfl, HT, HNr, hB⟩ := hrel
    have HB := hide hB
    clear hB
    by_cases hlt : k < L.length
    · obtain ⟨g, rfl, hc⟩ := HNr.out k hlt
      obtain ⟨x, hx⟩ : ∃ x, x = L[k]?.getD 0 := ⟨_, rfl⟩
      have hxs : x < s.size := (HLT.out x (by rw [hx]; simp [hlt])).2
      rw [← hx] at hc
      have HS := hide (all_step hlt hx HT.out)
      clear hx
      cases hok : (dec3 s x).2.2
      · have HOK := hide hok
        have HV := hide (show validS s = false by rw [HS.out, hok, Bool.false_and])
        clear hok
        go_wp2_with (go_at_call 11; refine (rnext_no s x _ hs hxs HOK.out).mono ?_; rintro e w2 ⟨rfl, hb2⟩; have HB2 := hide (HB.out.trans (hb2.mono HB.out.size)); clear hb2)
        go_ret
        exact ⟨ret_bool HV.out.symm, HB2.out⟩
      · have HOK := hide hok
        have HV := hide (show validS s = (L.drop (k + 1)).all fun k => (dec3 s k).2.2 by rw [HS.out, hok, Bool.true_and])
        clear hok
        go_wp2_with (go_at_call 11; refine (rnext_ok s x _ hs hxs HOK.out).mono ?_; rintro e w2 ⟨rfl, hb2⟩; have HB2 := hide (HB.out.trans (hb2.mono HB.out.size)); have HN2 := hide (HNr.out.below hb2); clear hb2)
        go_roundw
        case rel => exact ⟨k + 1, by omega, by go_num, HV.out, HN2, HB2.out⟩
        case measure => simp [intOf]; omega
    · go_wp2
      go_ret
      exact ⟨ret_bool (by rw [HT.out, List.drop_of_length_le (by omega)]; rfl), HB.out⟩

/-- What both Nexts answer at any place. -/
def nextR (s : ByteArray) (p : Int) : Int × Int × Bool :=
  if 0 ≤ p ∧ p < s.size then ((Utf8.decode s p.toNat).1, (Utf8.decode s p.toNat).2, runeOk s p.toNat) else (0, 0, false)
def backT (t : ByteArray) : Int × Int × Bool := ((Utf8.decode t (lastS t)).1, (Utf8.decode t (lastS t)).2, runeOk t (lastS t))
/-- What both Backs answer at any place. -/
def backR (s : ByteArray) (p : Int) : Int × Int × Bool :=
  if 1 ≤ p ∧ p ≤ s.size then backT (s.extract 0 p.toNat) else (0, 0, false)
theorem back_ret {t : ByteArray} {w w' : World} {e : Ending} (h : BackPost t w e w') : e = .returned (.tuple #[.int .i32 (backT t).1, .int .i64 (backT t).2.1, .bool (backT t).2.2]) ∧ Below w.heap.size w w' := h
def ofR (q : Int × Int × Bool) : Ending := .returned (.tuple #[.int .i32 q.1, .int .i64 q.2.1, .bool q.2.2])

theorem next_p (s : ByteArray) (p : Int) (w : World) (hs : s.size ≤ 1048576) (hT : UTabs w) :
    Calls Tryd.prog 10 #[.string s, .int .i64 p] w fun e w' => e = ofR (nextR s p) ∧ Below w.heap.size w w' := by
  by_cases h : 0 ≤ p ∧ p < s.size
  · obtain ⟨n, rfl⟩ := Int.eq_ofNat_of_zero_le h.1
    rw [nextR, if_pos h]
    exact next_any s n w hs (by omega) hT
  · rw [nextR, if_neg h]
    exact (next_out s p w hs (by omega)).mono fun e w' ⟨he, hw⟩ => ⟨he, hw ▸ Below.refl _ _⟩
theorem rnext_p (s : ByteArray) (p : Int) (w : World) (hs : s.size ≤ 1048576) :
    Calls Tryd.prog 11 #[.string s, .int .i64 p] w fun e w' => e = ofR (nextR s p) ∧ Below w.heap.size w w' := by
  by_cases h : 0 ≤ p ∧ p < s.size
  · obtain ⟨n, rfl⟩ := Int.eq_ofNat_of_zero_le h.1
    rw [nextR, if_pos h]
    exact rnext_u s n w hs (by omega)
  · rw [nextR, if_neg h]
    exact (rnext_out s p w hs (by omega)).mono fun e w' ⟨he, hw⟩ => ⟨he, hw ▸ Below.refl _ _⟩
theorem back_p (s : ByteArray) (p : Int) (w : World) (hs : s.size ≤ 1048576) (hT : UTabs w) :
    Calls Tryd.prog 12 #[.string s, .int .i64 p] w fun e w' => e = ofR (backR s p) ∧ Below w.heap.size w w' := by
  by_cases h : 1 ≤ p ∧ p ≤ s.size
  · obtain ⟨n, rfl⟩ := Int.eq_ofNat_of_zero_le (show 0 ≤ p by omega)
    rw [backR, if_pos h]
    simp only [Int.toNat_natCast]
    exact (cback_any s n w hs (by omega) (by omega) hT).mono fun _ _ h => back_ret h
  · rw [backR, if_neg h]
    exact (cback_out s p w hs (by omega)).mono fun e w' ⟨he, hw⟩ => ⟨he, hw ▸ Below.refl _ _⟩
theorem rback_p (s : ByteArray) (p : Int) (w : World) (hs : s.size ≤ 1048576) :
    Calls Tryd.prog 13 #[.string s, .int .i64 p] w fun e w' => e = ofR (backR s p) ∧ Below w.heap.size w w' := by
  by_cases h : 1 ≤ p ∧ p ≤ s.size
  · obtain ⟨n, rfl⟩ := Int.eq_ofNat_of_zero_le (show 0 ≤ p by omega)
    rw [backR, if_pos h]
    simp only [Int.toNat_natCast]
    exact (rback_any s n w hs (by omega) (by omega)).mono fun _ _ h => back_ret h
  · rw [backR, if_neg h]
    exact (rback_out s p w hs (by omega)).mono fun e w' ⟨he, hw⟩ => ⟨he, hw ▸ Below.refl _ _⟩
end Go.Proofs.YtpfpienbgnnocaaDoor
