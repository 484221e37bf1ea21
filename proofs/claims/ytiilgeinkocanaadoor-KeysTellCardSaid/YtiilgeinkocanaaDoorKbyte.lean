/- Contract of (*strings.Builder).WriteByte. -/
import Derived.Test.YtiilgeinkocanaaDoorKbuild
namespace Go.Proofs.YtiilgeinkocanaaDoor
open Go.RowKit

set_option maxRecDepth 100000 in
set_option maxHeartbeats 1000000 in
theorem wbyte_any (B b : Nat) (bs : List Value) (x : Int) (w : World) (h : Lib.IsBuilder 82 5 B b bs w) (hlen : bs.length + 1 ≤ 140737488355328) (hBw : B ≤ w.heap.size) :
    Calls Tryd.prog 60 #[.pointer (some ⟨b, 0, none⟩), .int .u8 x] w fun e w' => e = .returned .nilIface ∧ (Lib.BuilderAt 82 5 B b (.pointer (some ⟨b, 0, none⟩)) (bs ++ [.int .u8 x]) w' ∧ Below B w w') := by
  obtain ⟨i0, hi, hz0, hz1, hz2⟩ := info_parts info_byt
  have HB := hide h
  clear h
  go_enter Tryd.func60, Tryd.ntmps60
  go_wp2_with fail
  refine (check_any B b bs _ HB.out).mono ?_
  rintro e w1 ⟨rfl, ⟨hB, v, hbk, hown, hne⟩, hb1⟩
  have hv := hown.lt
  have c1 : w1.cell? ⟨b, 1, none⟩ = some v := (by rw [Lib.cell_of_heap hbk]; rfl)
  have HOWN := hide hown
  have HBK := hide hbk
  have HNE := hide hne
  have HB1 := hide hb1
  have HLT := hide hv
  clear hv hown hbk hne hb1
  have HALB := hide (HB1.out.alloc (by have := HB1.out.size; omega) (.cells #[.int .u8 x] 5))
  have hsz : w1.heap.size + 1 = (w1.alloc (.cells #[.int .u8 x] 5)).heap.size := by simp
  have HSZ := hide hsz
  clear hsz
  go_wp2_with (at_builtin; refine wpList_append_own _ rfl _ _ 34 rfl B 5 i0 (.int .u8 0) 1 1 Tryd.underlying34 hi hz0 hz1 hz2 rfl (by decide) _ _ _ rfl (HOWN.out.alloc _) ⟨w1.heap.size, 0, none⟩ 1 1 [.int .u8 x] rfl rfl (cell_one_new _ _ _) (by simp [Value.oneCell']) (by unfold maxLen; omega) (by omega) (by have := HB1.out.size; have := HSZ.out; omega) ?_; intro v' w2 hown' hgrow _; have hlt := (Array.getElem?_eq_some_iff.1 HBK.out).1; have hb0 : (w1.alloc (.cells #[.int .u8 x] 5)).heap[b]? = some (.cells #[.pointer (some ⟨b, 0, none⟩), v] 82 (0, 0)) := (Below.heap_alloc _ _ _ hlt).trans HBK.out; have hb2 : w2.heap[b]? = some (.cells #[.pointer (some ⟨b, 0, none⟩), v] 82 (0, 0)) := (hgrow.block b (Array.getElem?_eq_some_iff.1 hb0).1 (fun e => HNE.out e.symm)).trans hb0; have d1 : w2.cell? ⟨b, 1, none⟩ = some v := (by rw [Lib.cell_of_heap hb2]; rfl); have f1 : w2.frozen? ⟨b, 1, none⟩ = false := Lib.frozen_of_heap hb2 1; have HOW2 := hide hown'; have HB2 := hide hb2; have HBB := hide (HALB.out.grown hgrow (by have := HB1.out.size; have := HSZ.out; omega) (fun k hk => (HLT.out k hk).1)); obtain ⟨ao, n', cap, rfl⟩ := own_slice hown'; clear hown' hgrow hb2 hb0)
  go_ret
  exact ⟨rfl, Lib.BuilderAt.put (T := 82) (e := 5) hB HB2.out (bs' := bs ++ [.int .u8 x]) (by simpa using HOW2.out) (by decide), HBB.out.setCell (p := ⟨b, 1, none⟩) hB _⟩
end Go.Proofs.YtiilgeinkocanaaDoor
