/- A strings.Builder in the sight of blocks above it: WriteString, WriteByte, String. -/
import Derived.Test.YtiilgeinkocanaaDoorKbyte
import Derived.Test.YtiilgeinkocanaaDoorKthen
namespace Go.Proofs.YtiilgeinkocanaaDoor
open Go.RowKit

def BldAt (C b : Nat) (p : Value) (bs : List Value) (w : World) : Prop :=
  b < C ∧ C ≤ w.heap.size ∧ ∃ v, w.heap[b]? = some (.cells #[p, v] 82 (0, 0)) ∧ w.ownsRow C 5 1 v bs.length bs
def Bld (C b : Nat) (bs : List Value) (w : World) : Prop := BldAt C b (.pointer none) bs w ∨ BldAt C b (.pointer (some ⟨b, 0, none⟩)) bs w
theorem ExU.refl (C b : Nat) (w : World) : ExU C b w w := ⟨rfl, rfl, rfl, Nat.le_refl _, fun _ _ _ => rfl⟩
theorem ExU.trans {C b : Nat} {w w1 w2 : World} (h : ExU C b w w1) (k : ExU C b w1 w2) : ExU C b w w2 :=
  ⟨k.os.trans h.os, k.tape.trans h.tape, k.output.trans h.output, Nat.le_trans h.size k.size, fun x hx hn => (k.block x hx hn).trans (h.block x hx hn)⟩
theorem ExU.set (C b : Nat) (w : World) (o : Nat) (x : Value) : ExU C b w (w.setCell ⟨b, o, none⟩ x) := ⟨rfl, rfl, rfl, by simp [World.setCell], fun k _ hk => Below.heap_setCell _ _ _ _ (fun e => hk (by simp [e]))⟩
theorem ExU.alloc {C b : Nat} {w w1 : World} (h : ExU C b w w1) (hC : C ≤ w1.heap.size) (o : Obj) : ExU C b w (w1.alloc o) :=
  ⟨h.os, h.tape, h.output, by have := h.size; simp; omega, fun k hk hn => (Below.heap_alloc _ _ _ (by omega)).trans (h.block k hk hn)⟩
theorem ExU.under {C b B : Nat} {w w' : World} (h : ExU C b w w') (hB : B ≤ b) (hC : B ≤ C) : Below B w w' := ⟨h.os, h.tape, h.output, h.size, fun k hk => h.block k (by omega) (by omega)⟩
theorem BldAt.is {C b : Nat} {p : Value} {bs : List Value} {w : World} (h : BldAt C b p bs w) : Lib.BuilderAt 82 5 b b p bs w := by
  obtain ⟨h1, h2, v, h3, h4⟩ := h
  refine ⟨Nat.le_refl _, v, h3, ⟨h4.1, ?_⟩, fun e => ?_⟩
  · rcases h4.2 with h | ⟨g, cap, cur, rfl, hg, r⟩
    · exact .inl h
    · exact .inr ⟨g, cap, cur, rfl, by omega, r⟩
  · have := (h4.lt b e).1; omega
theorem Bld.is {C b : Nat} {bs : List Value} {w : World} (h : Bld C b bs w) : Lib.IsBuilder 82 5 b b bs w := h.imp BldAt.is BldAt.is
theorem Bld.fresh (w : World) (o : Obj) : Bld (w.heap.size + 2) w.heap.size [] ((w.alloc (.cells #[.pointer none, .slice none 0 0] 82)).alloc o) := by
  refine .inl ⟨by omega, by simp, .slice none 0 0, ?_, World.ownsRow_nil _ _ _ _⟩
  exact (Below.heap_alloc _ _ _ (by simp)).trans (World.alloc_heap_new _ _)
theorem row_kept {C b : Nat} {w w' : World} {e : TypeId} {v : Value} {n : Nat} {xs : List Value} (h : w.ownsRow C e 1 v n xs) (hk : ∀ k, C ≤ k → k < w.heap.size → w'.heap[k]? = w.heap[k]?) : w'.ownsRow C e 1 v n xs := by
  refine ⟨h.1, ?_⟩
  rcases h.2 with h0 | ⟨g, cap, cur, rfl, hg, hh, r⟩
  · exact .inl h0
  · exact .inr ⟨g, cap, cur, rfl, hg, (hk g hg (Array.getElem?_eq_some_iff.1 hh).1).trans hh, r⟩
theorem bld_keep {C b : Nat} {bs : List Value} {w w' : World} (h : Bld C b bs w) (hs : w.heap.size ≤ w'.heap.size) (hb : w'.heap[b]? = w.heap[b]?) (hk : ∀ k, C ≤ k → k < w.heap.size → w'.heap[k]? = w.heap[k]?) : Bld C b bs w' := by
  have go : ∀ p, BldAt C b p bs w → BldAt C b p bs w' := by
    rintro p ⟨h1, h2, v, h3, h4⟩
    exact ⟨h1, by omega, v, hb.trans h3, row_kept (b := b) h4 hk⟩
  exact h.imp (go _) (go _)
theorem Bld.below {C b : Nat} {bs : List Value} {w w' : World} (h : Bld C b bs w) (hb : Below w.heap.size w w') : Bld C b bs w' :=
  bld_keep h hb.size (hb.block b (by rcases h with ⟨h1, h2, -⟩ | ⟨h1, h2, -⟩ <;> omega)) (fun k _ hk => hb.block k hk)
theorem bcheck_any (C b : Nat) (bs : List Value) (w : World) (h : Bld C b bs w) :
    Calls Tryd.prog 68 #[.pointer (some ⟨b, 0, none⟩)] w fun e w' => e = .returned (.tuple #[]) ∧ BldAt C b (.pointer (some ⟨b, 0, none⟩)) bs w' ∧ ExU C b w w' := by
  rcases h with h | h
  · refine (check_fresh b w h.is.cell0 h.is.shape h.is.frozen0).mono ?_
    rintro e w' ⟨rfl, rfl⟩
    obtain ⟨h1, h2, v, h3, h4⟩ := h
    refine ⟨rfl, ⟨h1, by simpa [World.setCell] using h2, v, by simp [World.setCell, Array.getElem?_modify, h3], row_kept (b := b) h4 (fun k hk hk2 => Below.heap_setCell _ _ _ _ (fun e => by dsimp only at e; omega))⟩, ExU.set _ _ _ _ _⟩
  · exact (check_used b w h.is.cell0).mono (by rintro e w' ⟨rfl, rfl⟩; exact ⟨rfl, h, ExU.refl _ _ _⟩)
theorem bput {C b : Nat} {p v v' : Value} {bs' : List Value} {w : World} (h1 : b < C) (h2 : C ≤ w.heap.size) (hb : w.heap[b]? = some (.cells #[p, v] 82 (0, 0))) (hown : w.ownsRow C 5 1 v' bs'.length bs') : BldAt C b p bs' (w.setCell ⟨b, 1, none⟩ v') :=
  ⟨h1, by simpa [World.setCell] using h2, v', by simp [World.setCell, Array.getElem?_modify, hb], row_kept (b := b) hown (fun k hk hk2 => Below.heap_setCell _ _ _ _ (fun e => by dsimp only at e; omega))⟩
set_option maxRecDepth 100000 in
set_option maxHeartbeats 1000000 in
theorem bwrite_any (C b : Nat) (bs : List Value) (s : ByteArray) (w : World) (h : Bld C b bs w) (hlen : bs.length + s.size ≤ 140737488355328) :
    Calls Tryd.prog 62 #[.pointer (some ⟨b, 0, none⟩), .string s] w fun e w' => e = .returned (.tuple #[.int .i64 s.size, .nilIface]) ∧ Bld C b (bs ++ Lib.strCells s) w' ∧ ExU C b w w' := by
  obtain ⟨i0, hi, hz0, hz1, hz2⟩ := info_parts info_byt
  have HB := hide h
  clear h
  go_enter Tryd.func62, Tryd.ntmps62
  go_wp2_with fail
  refine (bcheck_any C b bs _ HB.out).mono ?_
  rintro e w1 ⟨rfl, ⟨hB, hC, v, hbk, hown⟩, hb1⟩
  have c1 : w1.cell? ⟨b, 1, none⟩ = some v := by rw [Lib.cell_of_heap hbk]; rfl
  have HOWN := hide hown
  have HBK := hide hbk
  have HB1 := hide hb1
  clear hown hbk hb1
  go_wp2_with (at_builtin; refine Lib.wpList_append_own_string _ rfl _ _ 34 9 rfl C 5 i0 Tryd.underlying34 Tryd.underlying9 hi hz0 hz1 hz2 _ _ _ rfl HOWN.out s rfl (by unfold maxLen; omega) (by omega) hC ?_; intro v' w2 hown' hgrow _; have hlt := (Array.getElem?_eq_some_iff.1 HBK.out).1; have hb2 : w2.heap[b]? = some (.cells #[.pointer (some ⟨b, 0, none⟩), v] 82 (0, 0)) := (hgrow.block b hlt (fun e => by have := (HOWN.out.lt b e.symm).1; omega)).trans HBK.out; have d1 : w2.cell? ⟨b, 1, none⟩ = some v := (by rw [Lib.cell_of_heap hb2]; rfl); have f1 : w2.frozen? ⟨b, 1, none⟩ = false := Lib.frozen_of_heap hb2 1; have HOW2 := hide hown'; have HB2 := hide hb2; have hC2 : C ≤ w2.heap.size := Nat.le_trans hC hgrow.size; have HBB := hide (HB1.out.grown hgrow (fun k hk => (HOWN.out.lt k hk).1) hC); obtain ⟨ao, n', cap, rfl⟩ := own_slice hown'; clear hown' hgrow hb2)
  go_ret2
  exact ⟨rfl, .inr (bput hB hC2 HB2.out (bs' := bs ++ Lib.strCells s) (by simpa [Lib.strCells_length] using HOW2.out)), HBB.out.trans (ExU.set _ _ _ _ _)⟩
set_option maxRecDepth 100000 in
set_option maxHeartbeats 1000000 in
theorem bbyte_any (C b : Nat) (bs : List Value) (x : Int) (w : World) (h : Bld C b bs w) (hlen : bs.length + 1 ≤ 140737488355328) :
    Calls Tryd.prog 60 #[.pointer (some ⟨b, 0, none⟩), .int .u8 x] w fun e w' => e = .returned .nilIface ∧ Bld C b (bs ++ [.int .u8 x]) w' ∧ ExU C b w w' := by
  obtain ⟨i0, hi, hz0, hz1, hz2⟩ := info_parts info_byt
  have HB := hide h
  clear h
  go_enter Tryd.func60, Tryd.ntmps60
  go_wp2_with fail
  refine (bcheck_any C b bs _ HB.out).mono ?_
  rintro e w1 ⟨rfl, ⟨hB, hC, v, hbk, hown⟩, hb1⟩
  have c1 : w1.cell? ⟨b, 1, none⟩ = some v := by rw [Lib.cell_of_heap hbk]; rfl
  have HOWN := hide hown
  have HBK := hide hbk
  have HALB := hide (hb1.alloc hC (.cells #[.int .u8 x] 5))
  have hsz : w1.heap.size + 1 = (w1.alloc (.cells #[.int .u8 x] 5)).heap.size := by simp
  have HSZ := hide hsz
  clear hsz hown hbk hb1
  go_wp2_with (at_builtin; refine wpList_append_own _ rfl _ _ 34 rfl C 5 i0 (.int .u8 0) 1 1 Tryd.underlying34 hi hz0 hz1 hz2 rfl (by decide) _ _ _ rfl (HOWN.out.alloc _) ⟨w1.heap.size, 0, none⟩ 1 1 [.int .u8 x] rfl rfl (cell_one_new _ _ _) (by simp [Value.oneCell']) (by unfold maxLen; omega) (by omega) (by have := HSZ.out; omega) ?_; intro v' w2 hown' hgrow _; have hlt := (Array.getElem?_eq_some_iff.1 HBK.out).1; have hb0 : (w1.alloc (.cells #[.int .u8 x] 5)).heap[b]? = some (.cells #[.pointer (some ⟨b, 0, none⟩), v] 82 (0, 0)) := (Below.heap_alloc _ _ _ hlt).trans HBK.out; have hb2 : w2.heap[b]? = some (.cells #[.pointer (some ⟨b, 0, none⟩), v] 82 (0, 0)) := (hgrow.block b (Array.getElem?_eq_some_iff.1 hb0).1 (fun e => by have := (HOWN.out.lt b e.symm).1; omega)).trans hb0; have d1 : w2.cell? ⟨b, 1, none⟩ = some v := (by rw [Lib.cell_of_heap hb2]; rfl); have f1 : w2.frozen? ⟨b, 1, none⟩ = false := Lib.frozen_of_heap hb2 1; have HOW2 := hide hown'; have HB2 := hide hb2; have hC2 : C ≤ w2.heap.size := (by have := hgrow.size; have := HSZ.out; omega); have HBB := hide (HALB.out.grown hgrow (fun k hk => (HOWN.out.lt k hk).1) (by have := HSZ.out; omega)); obtain ⟨ao, n', cap, rfl⟩ := own_slice hown'; clear hown' hgrow hb2 hb0)
  go_ret
  exact ⟨rfl, .inr (bput hB hC2 HB2.out (bs' := bs ++ [.int .u8 x]) (by simpa using HOW2.out)), HBB.out.trans (ExU.set _ _ _ _ _)⟩
end Go.Proofs.YtiilgeinkocanaaDoor
