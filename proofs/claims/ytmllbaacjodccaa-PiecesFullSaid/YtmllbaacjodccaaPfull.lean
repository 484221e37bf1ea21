/- The walk of limnerlaw03.PiecesFull. -/
import Derived.Test.YtmllbaacjodccaaPback
import Derived.Laws.BytesArg
import Derived.Deep.OwnRows
namespace Go.Proofs.Ytmllbaacjodccaa
open Go.RowKit

/-- So many bytes of 0. -/
def zeroS (n : Nat) : ByteArray := strOfNums (List.replicate n 0)
theorem zeroS_size (n : Nat) : (zeroS n).size = n := by rw [zeroS, strOfNums_size, List.length_replicate]
theorem infoU8 : (Try.prog.info? 5).map (fun i => (i.zero, i.size, i.bytes)) = some (some (.int .u8 0), 1, 1) := by kernel_rfl
theorem cell_firstP (w : World) (cs : Array Value) (t : TypeId) (i : Nat) : (w.alloc (.cells cs t)).cell? ⟨w.heap.size, 0 + i, none⟩ = cs[i]? := by
  rw [Nat.zero_add]
  exact cell_of_row _ _ i cs t (0, 0) (heap_alloc_new w _)
theorem conv_zero (w : World) (n : Nat) : (convert 38 9 (.slice (some ⟨w.heap.size, 0, none⟩) n n)).run Try.prog (w.alloc (.cells (madeCells #[.int .u8 0] n) 5)) = .ok (.string (zeroS n)) (w.alloc (.cells (madeCells #[.int .u8 0] n) 5)) := by
  refine run_convert_bytes_arg (P := Try.prog) _ 38 5 Try.underlying38 Try.underlying5 w.heap.size 0 n n _ List.length_replicate (fun i hi => ?_) 9 Try.underlying9
  rw [cell_firstP, ← Array.getElem?_toList, toList_madeCells_one]
  simp [List.getD, hi]
set_option maxHeartbeats 400000 in
theorem new_full (s : ByteArray) (w : World) (hs : 16384 < s.size) (hm : s.size ≤ 1000000) : Calls Try.prog 9 #[.string s] w fun e w' => e = .returned (.tuple #[.pointer none, .int .i64 60]) ∧ Below w.heap.size w w' := by
  go_enter Try.func9, Try.ntmps9
  go_wp2
  go_ret2
  exact ⟨rfl, Below.refl _ _⟩
set_option maxHeartbeats 1000000 in
theorem Insert_full (p : Value) (zs : List ByteArray) (a : Nat) (s : ByteArray) (w : World) (h : TextAt w p zs) (ha : a ≤ total zs) (ht : total zs ≤ 16384) (hs : 16384 < total zs + s.size) (hm : s.size ≤ 1000000) :
    Calls Try.prog 10 #[p, .int .i64 a, .string s] w fun e w' => e = .returned (.tuple #[.pointer none, .int .i64 60]) ∧ Below w.heap.size w w' := by
  have H := hide h
  obtain ⟨b, v, rfl, -, h0, h1, h2, hst⟩ := h
  have HW : (decide (0 ≤ (a : Int)) && decide ((a : Int) ≤ a) && decide ((a : Int) ≤ (total zs : Int))) = true := by simp; omega
  clear hst
  go_enter Try.func10, Try.ntmps10
  go_wp2_with fail
  refine (none_text _ zs _ H.out).mono ?_; rintro e w1 ⟨rfl, rfl⟩
  go_wp2_with fail
  refine (within_any _ zs a a _ H.out).mono ?_; rw [HW]; rintro e w1 ⟨rfl, rfl⟩
  go_wp2
  go_ret2
  exact ⟨rfl, Below.refl _ _⟩

set_option maxHeartbeats 2000000 in
set_option maxRecDepth 100000 in
theorem PiecesFull_any (mi mo : Nat) (w : World) (hmi : mi ≤ 255) (hmo : mo ≤ 255) :
    Calls Try.prog 5 #[.int .u8 mi, .int .u8 mo] w fun e w' => e = .returned (.bool true) ∧ Below w.heap.size w w' := by
  obtain ⟨n1, hn1⟩ : ∃ n1 : Nat, (16384 : Int) - (mi : Int) = (n1 : Int) := ⟨16384 - mi, by omega⟩
  obtain ⟨n3, hn3⟩ : ∃ n3 : Nat, (16385 : Int) + (mo : Int) = (n3 : Int) := ⟨16385 + mo, by omega⟩
  have hmk1 := run_make_row' (P := Try.prog) 38 5 (.int .u8 0) 1 Try.underlying38 infoU8 rfl .i64 .i64 n1 (by omega) (by omega)
  have hmk2 := run_make_row' (P := Try.prog) 38 5 (.int .u8 0) 1 Try.underlying38 infoU8 rfl .u8 .u8 mo (by omega) (by omega)
  have hmk3 := run_make_row' (P := Try.prog) 38 5 (.int .u8 0) 1 Try.underlying38 infoU8 rfl .i64 .i64 n3 (by omega) (by omega)
  have hcz := conv_zero
  have HZ1 := hide (zeroS_size n1)
  have HZ2 := hide (zeroS_size mo)
  have HZ3 := hide (zeroS_size n3)
  generalize zeroS = zf at *
  have HT := hide (tot_one (zf n1))
  have HL := hide (len_one (zf n1))
  have HB := hide ((Below.refl w.heap.size w).alloc (Nat.le_refl _) (.cells (madeCells #[.int .u8 0] n1) 5))
  go_enter Try.func5, Try.ntmps5
  go_wp2_with fail
  refine (new_any (zf n1) _ (by rw [HZ1.out]; omega)).mono ?_; rintro e w1 ⟨pt, rfl, t1, b1⟩
  replace HB := hide (HB.out.trans (b1.mono HB.out.size))
  replace HB := hide (HB.out.alloc HB.out.size (.cells (madeCells #[.int .u8 0] mo) 5))
  have TT := hide (t1.below ((Below.refl _ _).alloc (Nat.le_refl _) (.cells (madeCells #[.int .u8 0] mo) 5)))
  clear t1 b1
  go_wp2_with fail
  by_cases hgt : mi < mo
  · refine (Insert_full pt _ mi (zf mo) _ TT.out (by rw [HT.out, HZ1.out]; omega) (by rw [HT.out, HZ1.out]; omega) (by rw [HT.out, HZ1.out, HZ2.out]; omega) (by rw [HZ2.out]; omega)).mono ?_; rintro e w2 ⟨rfl, b1⟩
    replace HB := hide (HB.out.trans (b1.mono HB.out.size))
    replace HB := hide (HB.out.alloc HB.out.size (.cells (madeCells #[.int .u8 0] n3) 5))
    have hal := (Below.refl w2.heap.size w2).alloc (Nat.le_refl _) (.cells (madeCells #[.int .u8 0] n3) 5)
    replace TT := hide ((TT.out.below b1).below hal)
    clear b1 hal
    go_wp2_with fail
    refine (new_full (zf n3) _ (by rw [HZ3.out]; omega) (by rw [HZ3.out]; omega)).mono ?_; rintro e w3 ⟨rfl, b1⟩
    replace HB := hide (HB.out.trans (b1.mono HB.out.size))
    replace TT := hide (TT.out.below b1)
    clear b1
    go_wp2_with fail
    refine (len_is pt _ (n1 : Int) _ TT.out (by rw [HT.out, HZ1.out])).mono ?_; rintro e w4 ⟨rfl, b1⟩
    replace HB := hide (HB.out.trans (b1.mono HB.out.size))
    replace TT := hide (TT.out.below b1)
    clear b1
    go_wp2_with fail
    refine (put_any _).mono ?_; rintro e w5 ⟨rfl, b1⟩
    replace HB := hide (HB.out.trans (b1.mono HB.out.size))
    go_wp2
    go_ret
    exact ⟨rfl, HB.out⟩
  · refine (Insert_any pt _ mi (zf mo) _ TT.out (by rw [HT.out, HZ1.out]; omega) (by rw [HT.out, HZ1.out, HZ2.out]; omega) (by have := HL.out; omega)).mono ?_; rintro e w2 ⟨pu, rfl, t1, b1⟩
    have HTU := hide (show ((total (insP (onePiece (zf n1)) mi (zf mo)) : Nat) : Int) = (n1 : Int) + (mo : Int) by rw [total_ins, HT.out, HZ1.out, HZ2.out]; omega)
    replace HB := hide (HB.out.trans (b1.mono HB.out.size))
    replace HB := hide (HB.out.alloc HB.out.size (.cells (madeCells #[.int .u8 0] n3) 5))
    have hal := (Below.refl w2.heap.size w2).alloc (Nat.le_refl _) (.cells (madeCells #[.int .u8 0] n3) 5)
    replace TT := hide ((TT.out.below b1).below hal)
    have TU := hide (t1.below hal)
    clear t1 b1 hal
    go_wp2_with fail
    refine (new_full (zf n3) _ (by rw [HZ3.out]; omega) (by rw [HZ3.out]; omega)).mono ?_; rintro e w3 ⟨rfl, b1⟩
    replace HB := hide (HB.out.trans (b1.mono HB.out.size))
    replace TT := hide (TT.out.below b1)
    replace TU := hide (TU.out.below b1)
    clear b1
    go_wp2_with fail
    refine (len_is pt _ (n1 : Int) _ TT.out (by rw [HT.out, HZ1.out])).mono ?_; rintro e w4 ⟨rfl, b1⟩
    replace HB := hide (HB.out.trans (b1.mono HB.out.size))
    replace TT := hide (TT.out.below b1)
    replace TU := hide (TU.out.below b1)
    clear b1
    go_wp2_with fail
    refine (len_is pu _ ((n1 : Int) + (mo : Int)) _ TU.out HTU.out).mono ?_; rintro e w5 ⟨rfl, b1⟩
    replace HB := hide (HB.out.trans (b1.mono HB.out.size))
    replace TT := hide (TT.out.below b1)
    clear b1 TU
    go_wp2_with fail
    refine (len_is pt _ (n1 : Int) _ TT.out (by rw [HT.out, HZ1.out])).mono ?_; rintro e w6 ⟨rfl, b1⟩
    replace HB := hide (HB.out.trans (b1.mono HB.out.size))
    clear b1
    go_wp2_with fail
    refine (put_any _).mono ?_; rintro e w7 ⟨rfl, b1⟩
    replace HB := hide (HB.out.trans (b1.mono HB.out.size))
    go_wp2
    go_ret
    exact ⟨rfl, HB.out⟩
end Go.Proofs.Ytmllbaacjodccaa
