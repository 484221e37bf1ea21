/- Contract of clean of keys. -/
import Derived.Test.YtiilgeinkocanaaDoorKbld
import Derived.Test.YtiilgeinkocanaaDoorKcleanp
import Derived.Test.YtiilgeinkocanaaDoorKput
import Derived.Laws.RangeAny
import Derived.Lib.OthersKept
namespace Go.Proofs.YtiilgeinkocanaaDoor
open Go.RowKit

theorem strC_app (a b : ByteArray) : Lib.strCells (a ++ b) = Lib.strCells a ++ Lib.strCells b := by simp [Lib.strCells]
theorem strC_lf (a : ByteArray) : Lib.strCells (a ++ ⟨#[10]⟩) = Lib.strCells a ++ [.int .u8 10] := by rw [strC_app]; rfl
theorem ret_strK {a b : ByteArray} (h : a = b) : Ending.returned (.string a) = .returned (.string b) := by rw [h]
theorem clean_iter {w : World} {C b k : Nat} {bs : List Value} {s : ByteArray} {pos : Nat} (h : Bld C b bs w) (hk : k < C) (hb : b ≠ k) (s' : ByteArray) (q : Nat) : Bld C b bs (w.iterAt k s' q) :=
  bld_keep h (by rw [Lib.iterAt_size]; exact Nat.le_refl _) (Lib.iterAt_other _ _ _ _ _ hb) (fun j hj _ => Lib.iterAt_other _ _ _ _ _ (by omega))
theorem clean_end {s : ByteArray} {w wr : World} {f pos : Nat} {acc : ByteArray} (hp : ¬ pos < s.size) (h : acc ++ cleanFrom s f pos = cleanK s) {w' : World} (hb : Below w.heap.size w w') : Ending.returned (.string ⟨acc.data.toList.toArray⟩) = .returned (.string (cleanK s)) ∧ Below w.heap.size w w' := by
  have := clean_done hp h
  exact ⟨ret_strK (by rw [← this]), hb⟩
theorem clean_rel {s acc add : ByteArray} {w w1 w2 : World} {b pos' : Nat} (hb : b = w.heap.size) (hB : Below w.heap.size w w1) (hit : w1.heap[b + 1]? = some (.stringIter s pos')) (hx : ExU (b + 2) b w1 w2) (hbd : Bld (b + 2) b (Lib.strCells (acc ++ add)) w2) :
    w2.heap[b + 1]? = some (.stringIter s pos') ∧ Bld (b + 2) b (Lib.strCells (acc ++ add)) w2 ∧ Below w.heap.size w w2 :=
  ⟨(hx.block (b + 1) (by omega) (by omega)).trans hit, hbd, hB.trans (hx.under (by omega) (by omega))⟩
theorem putS_le4 (r : Int) : (putS r).size ≤ 4 := by
  rcases put_cases r with ⟨e, b⟩ | ⟨e, b⟩ | ⟨e, b⟩ | ⟨e, b⟩ | ⟨e, b⟩
  all_goals (rw [e]; first | exact Nat.zero_le 4 | exact (show 1 ≤ 4 by decide) | exact (show 2 ≤ 4 by decide) | exact (show 3 ≤ 4 by decide) | exact (show 4 ≤ 4 by decide))
theorem cleanAt_le (s : ByteArray) (k : Nat) : (cleanAt s k).size ≤ 4 := by
  have h := putS_le4 ((Utf8.decode s k).1 : Int)
  unfold cleanAt
  split
  · unfold cleanR
    split
    · exact (show (1 : Nat) ≤ 4 by omega)
    split
    · exact h
    · exact (show (0 : Nat) ≤ 4 by omega)
  · exact (show (0 : Nat) ≤ 4 by omega)
set_option maxRecDepth 100000 in
set_option maxHeartbeats 2000000 in
theorem clean_any (s : ByteArray) (w : World) (hs : s.size ≤ 1048576) (hU : UTabs w) (hT : WTabs w) :
    Calls Tryd.prog 46 #[.string s] w fun e w' => e = .returned (.string (cleanK s)) ∧ Below w.heap.size w w' := by
  have HU := hide (fun W (hW : Below w.heap.size w W) => UTabs.below hU hW)
  have HT := hide (fun W (hW : Below w.heap.size w W) => WTabs.below hT hW)
  clear hU hT
  go_enter Tryd.func46, Tryd.ntmps46
  go_wp2
  go_loopw [] (fun wr => ∃ (pos f : Nat) (acc : ByteArray), wr.heap[w.heap.size + 1]? = some (.stringIter s pos) ∧ Bld (w.heap.size + 2) w.heap.size (Lib.strCells acc) wr ∧ Hid (acc ++ cleanFrom s f pos = cleanK s) ∧ acc.size ≤ 4 * pos ∧ s.size ≤ pos + f ∧ pos ≤ s.size ∧ Below w.heap.size w wr) (fun wr => s.size - wr.iterPos (w.heap.size + 1))
  case atStart =>
    refine ⟨0, s.size, ⟨#[]⟩, ?_, Bld.fresh w _, hide (nil_apB _), by show 0 ≤ _; omega, by omega, by omega, ((Below.refl _ w).alloc (Nat.le_refl _) _).alloc (by simp) _⟩
    have := World.iter_heap (w.alloc (.cells #[.pointer none, .slice none 0 0] 82)) s 0
    simpa using this
  case round =>
    obtain ⟨pos, f, acc, hit, hbd, HL, hal, hf, hpos, hB⟩ := hrel
    by_cases hp : pos < s.size
    · have hnx : ∀ ty, (Instr.next (.pointer (some ⟨w.heap.size + 1, 0, none⟩)) true ty).run Tryd.prog wr = _ := fun ty => Lib.run_next_any_at wr (w.heap.size + 1) s pos ty hit hp
      have hd := dec_in s pos hp
      have HN := hide (fun W (hW : UTabs W) => next_any s pos W hs hp hW)
      have HC := hide (cleanAt_le s pos)
      obtain ⟨wi, hwi⟩ : ∃ wi, wi = wr.iterAt (w.heap.size + 1) s (pos + (Utf8.decode s pos).2) := ⟨_, rfl⟩
      have hBi : Below w.heap.size w wi := by rw [hwi]; exact Lib.below_iterAt hB (by omega) _ _
      have hiti : wi.heap[w.heap.size + 1]? = some (.stringIter s (pos + (Utf8.decode s pos).2)) := by rw [hwi]; exact Lib.iterAt_heap _ _ _ _ _ hit
      have hbdi : Bld (w.heap.size + 2) w.heap.size (Lib.strCells acc) wi := by rw [hwi]; exact clean_iter (pos := pos) (s := s) hbd (by omega) (by omega) _ _
      rw [← hwi] at hnx
      have HS := hide (clean_step hp HL.out hf)
      have HBI := hide hBi
      have HITI := hide hiti
      have HBDI := hide hbdi
      have HIT := hide hit
      clear hwi hBi hiti hit hB hbd hbdi HL
      cases hok : (dec3 s pos).2.2
      · have HA := hide (cleanAt_no hok)
        have HOK := hide (show runeOk s pos = false from hok)
        rw [HOK.out] at HN
        rw [HA.out] at HS HC
        clear hok
        go_wp2_with fail
        refine (HN.out _ (HU.out _ HBI.out)).mono ?_
        rintro e w1 ⟨rfl, hb1⟩
        have hz2 : w.heap.size + 2 ≤ wi.heap.size := by rcases HBDI.out with ⟨_, h, _⟩ | ⟨_, h, _⟩ <;> exact h
        have R := hide (clean_rel (acc := acc) (add := ⟨#[]⟩) rfl HBI.out HITI.out ⟨hb1.os, hb1.tape, hb1.output, hb1.size, fun k hk _ => hb1.block k (by omega)⟩ (by rw [ap_nilB]; exact HBDI.out.below hb1))
        clear hb1
        go_wp2_with fail
        go_roundw
        case rel => exact ⟨pos + (Utf8.decode s pos).2, f - 1, acc ++ ⟨#[]⟩, R.out.1, R.out.2.1, HS, by rw [ap_nilB]; omega, by omega, by omega, R.out.2.2⟩
        case measure => simp only [World.iterPos]; rw [R.out.1, HIT.out]; dsimp only; omega
      · have HOK := hide (show runeOk s pos = true from hok)
        rw [HOK.out] at HN
        have hA1 := fun h => cleanAt_cr hok h
        have hA2 := fun h h2 => cleanAt_put hok h h2
        have hA3 := fun h h2 => cleanAt_none hok h h2
        clear hok
        have hz2 : w.heap.size + 2 ≤ wi.heap.size := by rcases HBDI.out with ⟨_, h, _⟩ | ⟨_, h, _⟩ <;> exact h
        obtain ⟨x, hx⟩ : ∃ x : Int, ((Utf8.decode s pos).1 : Int) = x := ⟨_, rfl⟩
        rw [hx] at HN hA1 hA2 hA3
        have HFR := hide (fun w1 (hb1 : Below wi.heap.size wi w1) => (⟨hb1.os, hb1.tape, hb1.output, hb1.size, fun k hk _ => hb1.block k (by omega)⟩ : ExU (w.heap.size + 2) w.heap.size wi w1))
        clear hx
        by_cases h13 : x = 13
        · have HA := hide (hA1 h13)
          rw [HA.out] at HS HC
          clear hA1 hA2 hA3
          go_wp2_with fail
          refine (HN.out _ (HU.out _ HBI.out)).mono ?_
          rintro e w1 ⟨rfl, hb1⟩
          have HBD1 := hide (HBDI.out.below hb1)
          have HX1 := hide (HFR.out _ hb1)
          clear hb1
          go_wp2_with fail
          refine (bbyte_any _ _ _ 10 _ HBD1.out (by rw [Lib.strCells_length]; omega)).mono ?_
          rintro e w2 ⟨rfl, hbd2, hx2⟩
          have R := hide (clean_rel (acc := acc) (add := ⟨#[10]⟩) rfl HBI.out HITI.out (HX1.out.trans hx2) (by rw [strC_lf]; exact hbd2))
          clear hbd2 hx2
          go_wp2_with fail
          go_roundw
          case rel => exact ⟨pos + (Utf8.decode s pos).2, f - 1, acc ++ ⟨#[10]⟩, R.out.1, R.out.2.1, HS, by rw [join_size]; show acc.size + 1 ≤ _; omega, by omega, by omega, R.out.2.2⟩
          case measure => simp only [World.iterPos]; rw [R.out.1, HIT.out]; dsimp only; omega
        · have hA2 := hA2 h13
          have hA3 := hA3 h13
          clear hA1
          by_cases h10 : x = 10
          · have HA := hide (hA2 (.inl h10))
            rw [HA.out] at HS HC
            clear hA2 hA3 HA h13
            subst h10
            go_wp2_with fail
            refine (HN.out _ (HU.out _ HBI.out)).mono ?_
            rintro e w1 ⟨rfl, hb1⟩
            have HBD1 := hide (HBDI.out.below hb1)
            have HX1 := hide (HFR.out _ hb1)
            clear hb1
            go_wp2_with fail
            refine (cput_any 10 _).mono ?_
            rintro e w2 ⟨rfl, hw2⟩
            subst hw2
            go_wp2_with fail
            refine (bwrite_any _ _ _ (putS 10) _ HBD1.out (by rw [Lib.strCells_length]; have := HC.out; omega)).mono ?_
            rintro e w3 ⟨rfl, hbd3, hx3⟩
            have R := hide (clean_rel (acc := acc) (add := putS 10) rfl HBI.out HITI.out (HX1.out.trans hx3) (by rw [strC_app]; exact hbd3))
            clear hbd3 hx3
            go_wp2_with fail
            go_roundw
            case rel => exact ⟨pos + (Utf8.decode s pos).2, f - 1, acc ++ putS 10, R.out.1, R.out.2.1, HS, by rw [join_size]; have := HC.out; omega, by omega, by omega, R.out.2.2⟩
            case measure => simp only [World.iterPos]; rw [R.out.1, HIT.out]; dsimp only; omega
          by_cases h9 : x = 9
          · have HA := hide (hA2 (.inr (.inl h9)))
            rw [HA.out] at HS HC
            clear hA2 hA3 HA h13 h10
            subst h9
            go_wp2_with fail
            refine (HN.out _ (HU.out _ HBI.out)).mono ?_
            rintro e w1 ⟨rfl, hb1⟩
            have HBD1 := hide (HBDI.out.below hb1)
            have HX1 := hide (HFR.out _ hb1)
            clear hb1
            go_wp2_with fail
            refine (cput_any 9 _).mono ?_
            rintro e w2 ⟨rfl, hw2⟩
            subst hw2
            go_wp2_with fail
            refine (bwrite_any _ _ _ (putS 9) _ HBD1.out (by rw [Lib.strCells_length]; have := HC.out; omega)).mono ?_
            rintro e w3 ⟨rfl, hbd3, hx3⟩
            have R := hide (clean_rel (acc := acc) (add := putS 9) rfl HBI.out HITI.out (HX1.out.trans hx3) (by rw [strC_app]; exact hbd3))
            clear hbd3 hx3
            go_wp2_with fail
            go_roundw
            case rel => exact ⟨pos + (Utf8.decode s pos).2, f - 1, acc ++ putS 9, R.out.1, R.out.2.1, HS, by rw [join_size]; have := HC.out; omega, by omega, by omega, R.out.2.2⟩
            case measure => simp only [World.iterPos]; rw [R.out.1, HIT.out]; dsimp only; omega
          obtain ⟨y, hy⟩ : ∃ y, cells x = y := ⟨_, rfl⟩
          have HW := hide (fun W (hW : WTabs W) => wof_any x W hW)
          rw [hy] at HW hA2 hA3
          by_cases h0 : 0 < y
          · have HA := hide (hA2 (.inr (.inr h0)))
            rw [HA.out] at HS HC
            clear hA2 hA3 HA hy
            go_wp2_with fail
            refine (HN.out _ (HU.out _ HBI.out)).mono ?_
            rintro e w1 ⟨rfl, hb1⟩
            have HBD1 := hide (HBDI.out.below hb1)
            have HX1 := hide (HFR.out _ hb1)
            have HB1 := hide (HBI.out.trans (hb1.mono HBI.out.size))
            clear hb1
            go_wp2_with fail
            refine (HW.out _ (HT.out _ HB1.out)).mono ?_
            rintro e w9 ⟨rfl, hb9⟩
            replace HX1 := hide (HX1.out.trans (⟨hb9.os, hb9.tape, hb9.output, hb9.size, fun k hk _ => hb9.block k (by have := HX1.out.size; omega)⟩ : ExU (w.heap.size + 2) w.heap.size w1 w9))
            replace HBD1 := hide (HBD1.out.below hb9)
            clear hb9
            go_wp2_with fail
            refine (cput_any x _).mono ?_
            rintro e w2 ⟨rfl, hw2⟩
            subst hw2
            go_wp2_with fail
            refine (bwrite_any _ _ _ (putS x) _ HBD1.out (by rw [Lib.strCells_length]; have := HC.out; omega)).mono ?_
            rintro e w3 ⟨rfl, hbd3, hx3⟩
            have R := hide (clean_rel (acc := acc) (add := putS x) rfl HBI.out HITI.out (HX1.out.trans hx3) (by rw [strC_app]; exact hbd3))
            clear hbd3 hx3
            go_wp2_with fail
            go_roundw
            case rel => exact ⟨pos + (Utf8.decode s pos).2, f - 1, acc ++ putS x, R.out.1, R.out.2.1, HS, by rw [join_size]; have := HC.out; omega, by omega, by omega, R.out.2.2⟩
            case measure => simp only [World.iterPos]; rw [R.out.1, HIT.out]; dsimp only; omega
          · have HA := hide (hA3 (by omega))
            rw [HA.out] at HS HC
            clear hA2 hA3 HA hy
            go_wp2_with fail
            refine (HN.out _ (HU.out _ HBI.out)).mono ?_
            rintro e w1 ⟨rfl, hb1⟩
            have HBD1 := hide (HBDI.out.below hb1)
            have HX1 := hide (HFR.out _ hb1)
            have HB1 := hide (HBI.out.trans (hb1.mono HBI.out.size))
            clear hb1
            go_wp2_with fail
            refine (HW.out _ (HT.out _ HB1.out)).mono ?_
            rintro e w9 ⟨rfl, hb9⟩
            have HX9 := hide (HX1.out.trans (⟨hb9.os, hb9.tape, hb9.output, hb9.size, fun k hk _ => hb9.block k (by have := HX1.out.size; omega)⟩ : ExU (w.heap.size + 2) w.heap.size w1 w9))
            have R := hide (clean_rel (acc := acc) (add := ⟨#[]⟩) rfl HBI.out HITI.out HX9.out (by rw [ap_nilB]; exact HBD1.out.below hb9))
            clear hb9
            go_wp2_with fail
            go_roundw
            case rel => exact ⟨pos + (Utf8.decode s pos).2, f - 1, acc ++ ⟨#[]⟩, R.out.1, R.out.2.1, HS, by rw [ap_nilB]; omega, by omega, by omega, R.out.2.2⟩
            case measure => simp only [World.iterPos]; rw [R.out.1, HIT.out]; dsimp only; omega
    · have hnx : ∀ ty, (Instr.next (.pointer (some ⟨w.heap.size + 1, 0, none⟩)) true ty).run Tryd.prog wr = _ := fun ty => Lib.run_next_end_at wr (w.heap.size + 1) s pos ty hit hp
      have HBD := hide hbd
      have HB := hide hB
      clear hit hbd hB
      go_wp2_with fail
      refine (Tryd.Builder_String_any w.heap.size w.heap.size acc.data.toList _ HBD.out.is HB.out.size).mono ?_
      rintro e w1 ⟨rfl, hb1⟩
      have HB1 := hide hb1
      clear hb1
      go_wp2_with fail
      go_ret
      exact clean_end (wr := w) hp HL.out (HB.out.trans HB1.out)
end Go.Proofs.YtiilgeinkocanaaDoor
