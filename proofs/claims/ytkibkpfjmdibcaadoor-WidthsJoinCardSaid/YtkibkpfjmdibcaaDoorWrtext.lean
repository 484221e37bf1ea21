/- Contract of limnerref02.Text. -/
import Derived.Test.YtkibkpfjmdibcaaDoorWtext
import Derived.Test.YtkibkpfjmdibcaaDoorStarts
namespace Go.Proofs.YtkibkpfjmdibcaaDoor
open Go.RowKit

/-- How many cells the runes at some places take. -/
def sumAt (s : ByteArray) : List Nat → Int
  | [] => 0
  | k :: L => cells (shown (Utf8.decode s k).1) + sumAt s L
theorem sumAt_from (s : ByteArray) : ∀ f pos, sumAt s (startsFrom s f pos) = textFrom s f pos
  | 0, _ => rfl
  | f + 1, pos => by
    simp only [startsFrom, textFrom]
    split
    · simp only [sumAt]; rw [sumAt_from s f]
    · rfl
theorem sumAt_all (s : ByteArray) : sumAt s (starts s) = textW s := sumAt_from s _ _
theorem sum_step {s : ByteArray} {L : List Nat} {k x : Nat} {a c T : Int} (hk : k < L.length) (hx : x = L[k]?.getD 0) (hc : c = cells (shown (Utf8.decode s x).1)) (h : a + sumAt s (L.drop k) = T) : a + c + sumAt s (L.drop (k + 1)) = T := by
  subst hc
  rw [List.drop_eq_getElem_cons hk] at h
  simp only [sumAt] at h
  simp only [List.getElem?_eq_getElem hk, Option.getD_some] at hx
  subst hx
  omega
theorem rof_x (r : Int) (w : World) : Calls Tryd.prog 9 #[.int .i32 r] w fun e w' => ∃ c : Int, Hid (c = cells r) ∧ 0 ≤ c ∧ c ≤ 2 ∧ e = .returned (.int .i64 c) ∧ Below w.heap.size w w' :=
  (rof_any r w).mono fun _ _ ⟨he, hw⟩ => ⟨_, rfl, (cells_bd r).1, (cells_bd r).2, he, hw⟩
theorem rshown_x (r : Int) (w : World) : Calls Tryd.prog 11 #[.int .i32 r] w fun e w' => ∃ c : Int, Hid (c = shown r) ∧ e = .returned (.int .i32 c) ∧ Below w.heap.size w w' :=
  (rshown_any r w).mono fun _ _ ⟨he, hw⟩ => ⟨_, rfl, he, hw⟩

set_option maxHeartbeats 1000000 in
theorem rtext_any (s : ByteArray) (w : World) (hs : s.size ≤ 1048576) :
    Calls Tryd.prog 16 #[.string s] w fun e w' => e = .returned (.int .i64 (textW s)) ∧ Below w.heap.size w w' := by
  go_enter Tryd.func16, Tryd.ntmps16
  go_wp2_with (go_at_call 24; refine (starts_any s _ hs).mono ?_; rintro e w1 ⟨A, c, rfl, hown, hb1⟩)
  have hlen := starts_len s
  have HN := hide (NatsAt.of_own hown)
  have hlt := starts_lt s s.size 0
  have HALL := hide (sumAt_all s)
  rw [show startsFrom s s.size 0 = starts s from rfl] at hlt
  generalize starts s = L at *
  have HLT := hide hlt
  clear hown hlt
  go_loopw [4, 5] (fun n i wr => ∃ (k : Nat) (a : Int), k ≤ L.length ∧ 0 ≤ a ∧ a ≤ 2 * k ∧ n = .int .i64 a ∧ i = .int .i64 k ∧ Hid (a + sumAt s (L.drop k) = textW s) ∧ Hid (NatsAt A L wr) ∧ Below w.heap.size w wr) (fun _ i _ => L.length - (intOf i).toNat)
  case atStart => exact ⟨0, 0, by omega, by omega, by omega, rfl, rfl, by rw [List.drop_zero, Int.zero_add]; exact HALL.out, HN, hb1⟩
  case round =>
    obtain ⟨k, a, hk, ha0, ha2, rfl, rfl, HT, HNr, hB⟩ := hrel
    have HB := hide hB
    clear hB
    by_cases hlt : k < L.length
    · obtain ⟨g, rfl, hc⟩ := HNr.out k hlt
      obtain ⟨x, hx⟩ : ∃ x, x = L[k]?.getD 0 := ⟨_, rfl⟩
      have hxs : x < s.size := (HLT.out x (by rw [hx]; simp [hlt])).2
      rw [← hx] at hc
      have HX := hide hx
      clear hx
      go_wp2_with (first
        | (go_at_call 25; refine (rnext_u s x _ hs hxs).mono ?_; rintro e w2 ⟨rfl, hb2⟩; have HB2 := hide (HB.out.trans (hb2.mono HB.out.size)); have HN2 := hide (HNr.out.below hb2); clear hb2)
        | (go_at_call 11; refine (rshown_x _ _).mono ?_; rintro e w3 ⟨c, HC, rfl, hb3⟩; have HB3 := hide (HB2.out.trans (hb3.mono HB2.out.size)); have HN3 := hide (HN2.out.below hb3); clear hb3)
        | (go_at_call 9; refine (rof_x _ _).mono ?_; rintro e w4 ⟨d, HD, hd0, hd2, rfl, hb4⟩; have HB4 := hide (HB3.out.trans (hb4.mono HB3.out.size)); have HN4 := hide (HN3.out.below hb4); clear hb4))
      go_roundw
      case rel => exact ⟨k + 1, a + d, by omega, by omega, by omega, rfl, by go_num, sum_step hlt HX.out (by rw [HD.out, HC.out]) HT.out, HN4, HB4.out⟩
      case measure => simp [intOf]; omega
    · go_wp2
      go_ret
      exact ⟨ret_cells (by rw [← HT.out, List.drop_of_length_le (by omega)]; simp [sumAt]), HB.out⟩
end Go.Proofs.YtkibkpfjmdibcaaDoor
