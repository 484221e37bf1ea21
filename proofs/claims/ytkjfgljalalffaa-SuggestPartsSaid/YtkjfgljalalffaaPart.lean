/- Contracts of suggest.Part and limnerref33.Part: both answer partS. -/
import Derived.Test.YtkjfgljalalffaaNext
import Derived.Test.YtkjfgljalalffaaClass
import Derived.Laws.RangeAny
import Derived.Lib.RuneCount
namespace Go.Proofs.Ytkjfgljalalffaa
open Go.RowKit

theorem dec_in (s : ByteArray) (pos : Nat) (h : pos < s.size) : 1 ≤ (Utf8.decode s pos).2 ∧ pos + (Utf8.decode s pos).2 ≤ s.size := by
  refine ⟨Lib.decode_width_pos s pos h, ?_⟩
  have e := nxt_dec s pos h
  have e2 : (nxt s pos).2.1 = (Utf8.decode s pos).2 := by rw [e, dec3]
  rw [← e2]
  by_cases c : 0 < begN ((s.get! pos).toNat : Int) ∧ pos + begN ((s.get! pos).toNat : Int) ≤ s.size ∧ putS (acc s pos (begN ((s.get! pos).toNat : Int))) = s.extract pos (pos + begN ((s.get! pos).toNat : Int))
  · unfold nxt; dsimp only; rw [if_pos c]; dsimp only; exact c.2.1
  · unfold nxt; dsimp only; rw [if_neg c]; dsimp only; omega

def partEnd (s : ByteArray) : Nat → Nat → Int → Nat
  | 0, pos, _ => pos
  | f + 1, pos, c => if pos < s.size then (if c ≠ 0 ∧ cls (Utf8.decode s pos).1 ≠ c then pos else partEnd s f (pos + (Utf8.decode s pos).2) (cls (Utf8.decode s pos).1)) else pos
def partS (s : ByteArray) : ByteArray := s.extract 0 (partEnd s s.size 0 0)

theorem partEnd_stop {s : ByteArray} {f pos : Nat} {c : Int} (h : pos < s.size) (hc : c ≠ 0 ∧ cls (Utf8.decode s pos).1 ≠ c) : partEnd s f pos c = pos := by
  cases f with
  | zero => rfl
  | succ f => simp only [partEnd]; rw [if_pos h, if_pos hc]
theorem partEnd_end {s : ByteArray} {f pos : Nat} {c : Int} (h : ¬ pos < s.size) : partEnd s f pos c = pos := by
  cases f with
  | zero => rfl
  | succ f => simp only [partEnd]; rw [if_neg h]
theorem partEnd_go {s : ByteArray} {f pos : Nat} {c : Int} (h : pos < s.size) (hc : ¬ (c ≠ 0 ∧ cls (Utf8.decode s pos).1 ≠ c)) : partEnd s (f + 1) pos c = partEnd s f (pos + (Utf8.decode s pos).2) (cls (Utf8.decode s pos).1) := by
  simp only [partEnd]; rw [if_pos h, if_neg hc]
theorem cls_bd (r : Int) : 0 ≤ cls r ∧ cls r ≤ 2 := by unfold cls; (repeat' split) <;> omega
theorem extract_all (s : ByteArray) : s.extract 0 s.size = s := by
  rw [Lib.extract_eq]; cases s with | mk d => cases d with | mk l => simp [ByteArray.size]

theorem part_step {s : ByteArray} {f pos : Nat} {k x : Int} {T : Nat} (hp : pos < s.size) (hx : x = cls (Utf8.decode s pos).1) (hc : k = 0 ∨ (k != 0) = false ∨ (x != k) = false) (h : partEnd s f pos k = T) (hf : s.size ≤ pos + f) : partEnd s (f - 1) (pos + (Utf8.decode s pos).2) x = T := by
  subst hx
  obtain ⟨f, rfl⟩ : ∃ g, f = g + 1 := ⟨f - 1, by omega⟩
  rw [partEnd_go hp (by simp at hc; omega)] at h
  exact h
theorem part_stop {s : ByteArray} {f pos : Nat} {k x : Int} (hp : pos < s.size) (hx : x = cls (Utf8.decode s pos).1) (hc : (k != 0) = true ∧ (x != k) = true) (h : partEnd s f pos k = partEnd s s.size 0 0) : Ending.returned (.string (s.extract 0 pos)) = .returned (.string (partS s)) := by
  subst hx
  rw [partEnd_stop hp (by simpa using hc)] at h
  rw [partS, ← h]
theorem part_end {s : ByteArray} {f pos : Nat} {k : Int} (hp : ¬ pos < s.size) (hpos : pos ≤ s.size) (h : partEnd s f pos k = partEnd s s.size 0 0) : partS s = s := by
  rw [partEnd_end hp] at h
  rw [partS, ← h, show pos = s.size by omega, extract_all]
theorem part_fin {s : ByteArray} {f pos : Nat} {k : Int} (hp : ¬ pos < s.size) (_hpos : pos ≤ s.size) (h : partEnd s f pos k = partEnd s s.size 0 0) : s.extract 0 pos = partS s := by
  rw [partEnd_end hp] at h
  rw [partS, ← h]
theorem class_x (r : Int) (w : World) : Calls Try.prog 14 #[.int .i32 r] w fun e w' => ∃ x : Int, Hid (x = cls r) ∧ 0 ≤ x ∧ x ≤ 2 ∧ e = .returned (.int .i64 x) ∧ w = w' :=
  (class_any r w).mono fun _ _ ⟨he, hw⟩ => ⟨_, rfl, (cls_bd r).1, (cls_bd r).2, he, hw⟩
theorem rclass_x (r : Int) (w : World) : Calls Try.prog 16 #[.int .i32 r] w fun e w' => ∃ x : Int, Hid (x = cls r) ∧ 0 ≤ x ∧ x ≤ 2 ∧ e = .returned (.int .i64 x) ∧ w = w' :=
  (rclass_any r w).mono fun _ _ ⟨he, hw⟩ => ⟨_, rfl, (cls_bd r).1, (cls_bd r).2, he, hw⟩

set_option maxHeartbeats 400000 in
theorem part_any (s : ByteArray) (w : World) (hs : s.size ≤ 1048576) :
    Calls Try.prog 10 #[.string s] w fun e w' => e = .returned (.string (partS s)) ∧ Below w.heap.size w w' := by
  go_enter Try.func10, Try.ntmps10
  go_wp2
  go_loopw [3] (fun c w' => ∃ (pos f : Nat) (k : Int), w' = w.iter s pos ∧ 0 ≤ k ∧ k ≤ 2 ∧ c = .int .i64 k ∧ Hid (partEnd s f pos k = partEnd s s.size 0 0) ∧ s.size ≤ pos + f ∧ pos ≤ s.size) (fun _ w' => s.size - w'.iterPos w.heap.size)
  case atStart => exact ⟨0, s.size, 0, rfl, by omega, by omega, rfl, rfl, by omega, by omega⟩
  case round =>
    obtain ⟨pos, f, k, rfl, hk0, hk2, rfl, HP, hf, hpos⟩ := hrel
    by_cases hp : pos < s.size
    · have hnx : ∀ ty, (Instr.next (.pointer (some ⟨w.heap.size, 0, none⟩)) true ty).run Try.prog (w.iter s pos) = _ := fun ty => run_next_any w s pos ty hp
      go_wp2_with (go_at_call 14; refine (class_x _ _).mono ?_; rintro e w' ⟨x, HX, hx0, hx1, rfl, rfl⟩)
      all_goals have hd := dec_in s pos hp
      · go_roundw
        case rel => exact ⟨_, f - 1, x, rfl, hx0, hx1, rfl, part_step (k := k) hp HX.out (.inl (by assumption)) HP.out hf, by omega, by omega⟩
        case measure => simp; omega
      · have hc : (k != 0) = true ∧ (x != k) = true := by assumption
        go_ret
        exact ⟨part_stop hp HX.out hc HP.out, (Below.refl _ _).alloc (Nat.le_refl _) _⟩
      · have hc : (k != 0) = false ∨ (x != k) = false := by assumption
        go_roundw
        case rel => exact ⟨_, f - 1, x, rfl, hx0, hx1, rfl, part_step hp HX.out (.inr hc) HP.out hf, by omega, by omega⟩
        case measure => simp; omega
    · have hnx : ∀ ty, (Instr.next (.pointer (some ⟨w.heap.size, 0, none⟩)) true ty).run Try.prog (w.iter s pos) = _ := fun ty => run_next_end w s pos ty hp
      go_wp2
      go_ret
      exact ⟨ret_str (part_end hp hpos HP.out).symm, (Below.refl _ _).alloc (Nat.le_refl _) _⟩
/-- limnerref01.Next at a place that lies in the text: a rune. -/
theorem rnext_ok (s : ByteArray) (i : Nat) (w : World) (hs : s.size ≤ 1048576) (hi : i < s.size) (hok : (dec3 s i).2.2 = true) :
    Calls Try.prog 15 #[.string s, .int .i64 i] w fun e w' => e = .returned (.tuple #[.int .i32 (Utf8.decode s i).1, .int .i64 (Utf8.decode s i).2, .bool true]) ∧ Below w.heap.size w w' :=
  (rnext_any s i w hs hi).mono fun e w' ⟨he, hw⟩ => ⟨by rw [he, nxt_dec s i hi, hok]; rfl, hw⟩
/-- limnerref01.Next at a place that lies in the text: a byte that is of none. -/
theorem rnext_no (s : ByteArray) (i : Nat) (w : World) (hs : s.size ≤ 1048576) (hi : i < s.size) (hok : (dec3 s i).2.2 = false) :
    Calls Try.prog 15 #[.string s, .int .i64 i] w fun e w' => e = .returned (.tuple #[.int .i32 (Utf8.decode s i).1, .int .i64 (Utf8.decode s i).2, .bool false]) ∧ Below w.heap.size w w' :=
  (rnext_any s i w hs hi).mono fun e w' ⟨he, hw⟩ => ⟨by rw [he, nxt_dec s i hi, hok]; rfl, hw⟩
theorem dec_no {s : ByteArray} {i : Nat} (h : (dec3 s i).2.2 = false) : (Utf8.decode s i).1 = 65533 ∧ (Utf8.decode s i).2 = 1 := by
  simpa [dec3] using h

set_option maxHeartbeats 400000 in
theorem rpart_any (s : ByteArray) (w : World) (hs : s.size ≤ 1048576) :
    Calls Try.prog 11 #[.string s] w fun e w' => e = .returned (.string (partS s)) ∧ Below w.heap.size w w' := by
  go_enter Try.func11, Try.ntmps11
  go_wp2
  go_loopw [3, 4] (fun p c wr => ∃ (pos f : Nat) (k : Int), Below w.heap.size w wr ∧ 0 ≤ k ∧ k ≤ 2 ∧ p = .int .i64 pos ∧ c = .int .i64 k ∧ Hid (partEnd s f pos k = partEnd s s.size 0 0) ∧ s.size ≤ pos + f ∧ pos ≤ s.size) (fun p _ _ => s.size - (intOf p).toNat)
  case atStart => exact ⟨0, s.size, 0, Below.refl _ _, by omega, by omega, rfl, rfl, rfl, by omega, by omega⟩
  case round =>
    obtain ⟨pos, f, k, hB, hk0, hk2, rfl, rfl, HP, hf, hpos⟩ := hrel
    by_cases hp : pos < s.size
    · have hd := dec_in s pos hp
      cases hok : (dec3 s pos).2.2
      · have hH := hide hok
        clear hok
        go_wp2_with (first
          | (go_at_call 15; refine (rnext_no _ _ _ hs hp hH.out).mono ?_; rintro e w1 ⟨rfl, hB1⟩)
          | (go_at_call 16; refine (rclass_x _ _).mono ?_; rintro e w' ⟨x, HX, hx0, hx1, rfl, rfl⟩))
        all_goals have HN := hide (dec_no hH.out)
        all_goals have HX' : Hid (x = cls (Utf8.decode s pos).1) := by rw [HN.out.1]; exact HX.out
        all_goals have HB2 := hide (hB.trans (hB1.mono hB.size))
        · go_roundw
          case rel => exact ⟨pos + 1, f - 1, x, HB2.out, hx0, hx1, by go_num, rfl, HN.out.2 ▸ part_step (k := k) hp HX'.out (.inl (by assumption)) HP.out hf, by omega, by omega⟩
          case measure => simp [intOf]; omega
        · have hc : (k != 0) = true ∧ (x != k) = true := by assumption
          go_ret
          exact ⟨part_stop hp HX'.out hc HP.out, HB2.out⟩
        · have hc : (k != 0) = false ∨ (x != k) = false := by assumption
          go_roundw
          case rel => exact ⟨pos + 1, f - 1, x, HB2.out, hx0, hx1, by go_num, rfl, HN.out.2 ▸ part_step hp HX'.out (.inr hc) HP.out hf, by omega, by omega⟩
          case measure => simp [intOf]; omega
      · have hH := hide hok
        clear hok
        go_wp2_with (first
          | (go_at_call 15; refine (rnext_ok _ _ _ hs hp hH.out).mono ?_; rintro e w1 ⟨rfl, hB1⟩)
          | (go_at_call 16; refine (rclass_x _ _).mono ?_; rintro e w' ⟨x, HX, hx0, hx1, rfl, rfl⟩))
        all_goals have HB2 := hide (hB.trans (hB1.mono hB.size))
        · go_roundw
          case rel => exact ⟨pos + (Utf8.decode s pos).2, f - 1, x, HB2.out, hx0, hx1, by go_num, rfl, part_step (k := k) hp HX.out (.inl (by assumption)) HP.out hf, by omega, by omega⟩
          case measure => simp [intOf]; omega
        · have hc : (k != 0) = true ∧ (x != k) = true := by assumption
          go_ret
          exact ⟨part_stop hp HX.out hc HP.out, HB2.out⟩
        · have hc : (k != 0) = false ∨ (x != k) = false := by assumption
          go_roundw
          case rel => exact ⟨pos + (Utf8.decode s pos).2, f - 1, x, HB2.out, hx0, hx1, by go_num, rfl, part_step hp HX.out (.inr hc) HP.out hf, by omega, by omega⟩
          case measure => simp [intOf]; omega
    · go_wp2
      go_ret
      exact ⟨ret_str (part_fin hp hpos HP.out), hB⟩
end Go.Proofs.Ytkjfgljalalffaa
