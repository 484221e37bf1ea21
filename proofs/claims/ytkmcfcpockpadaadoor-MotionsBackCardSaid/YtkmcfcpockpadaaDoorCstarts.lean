/- Contracts of codes.Starts, limnerlaw01.Ints and limnerref01.Valid. -/
import Derived.Test.YtkmcfcpockpadaaDoorNext
import Derived.Test.YtkmcfcpockpadaaDoorStarts
import Derived.Test.YtkmcfcpockpadaaDoorLast
import Derived.Laws.RangeAny
import Derived.Lib.OthersKept
import Derived.BigQuiet
import Derived.Deep.QuietTactic
namespace Go.Proofs.YtkmcfcpockpadaaDoor
open Go.RowKit

theorem own_iter {w : World} {B k : Nat} {e : TypeId} {m : Nat} {v : Value} {n : Nat} {xs : List Value} (h : w.ownsRow B e m v n xs) (hk : k < B) (s : ByteArray) (pos : Nat) : (w.iterAt k s pos).ownsRow B e m v n xs := by
  refine ⟨h.1, ?_⟩
  rcases h.2 with h0 | ⟨g, cap, cur, rfl, hg, hh, h1, h2, h3, h4⟩
  · exact .inl h0
  · exact .inr ⟨g, cap, cur, rfl, hg, by rw [Lib.iterAt_other _ _ _ _ _ (by omega)]; exact hh, h1, h2, h3, h4⟩
theorem own_mono {w : World} {B C : Nat} {e : TypeId} {m : Nat} {v : Value} {n : Nat} {xs : List Value} (h : w.ownsRow B e m v n xs) (hk : C ≤ B) : w.ownsRow C e m v n xs := by
  refine ⟨h.1, ?_⟩
  rcases h.2 with h0 | ⟨g, cap, cur, rfl, hg, hh, h1, h2, h3, h4⟩
  · exact .inl h0
  · exact .inr ⟨g, cap, cur, rfl, by omega, hh, h1, h2, h3, h4⟩
theorem cst_rel {w wi w1 : World} {v v' : Value} {L : List Nat} {pos pos' : Nat} {s : ByteArray} {o : Obj} {t : TypeId} (hB : Below w.heap.size w wi) (hlt : w.heap.size < wi.heap.size) (hit : wi.heap[w.heap.size]? = some (.stringIter s pos')) (hown : wi.ownsRow (w.heap.size + 1) t 1 v L.length (nats L))
    (hown1 : w1.ownsRow (w.heap.size + 1) t 1 v' (L.length + 1) (nats L ++ [.int .i64 (pos : Int)])) (hgrow : (wi.alloc o).grownBy w1 v.ownBlock) :
    w1.heap[w.heap.size]? = some (.stringIter s pos') ∧ w1.ownsRow (w.heap.size + 1) t 1 v' (L ++ [pos]).length (nats (L ++ [pos])) ∧ Below w.heap.size w w1 := by
  have h1 : Below w.heap.size w w1 := (hB.alloc (by omega) o).grown hgrow (by simp; omega) (fun k e => by have := (hown.lt k e).1; omega)
  refine ⟨?_, by rw [nats_snoc, List.length_append]; exact hown1, h1⟩
  have h2 : Below (w.heap.size + 1) wi w1 := ((Below.refl (w.heap.size + 1) wi).alloc (by omega) o).grown hgrow (by simp; omega) (fun k e => (hown.lt k e).1)
  exact (h2.block w.heap.size (by omega)).trans hit
theorem cst_end {s : ByteArray} {w wr : World} {v : Value} {L : List Nat} {f pos : Nat} (hp : ¬ pos < s.size) (h : L ++ startsFrom s f pos = starts s) (hown : wr.ownsRow (w.heap.size + 1) 3 1 v L.length (nats L)) (hB : Below w.heap.size w wr) : StartsPost s w (.returned v) wr :=
  starts_end hp h (own_mono hown (by omega)) hB

set_option maxHeartbeats 1000000 in
theorem cstarts_any (s : ByteArray) (w : World) (hs : s.size ≤ 1048576) : Calls Tryd.prog 20 #[.string s] w (StartsPost s w) := by
  obtain ⟨i0, hi, hz0, hz1, hz2⟩ := info_parts info_int
  go_enter Tryd.func20, Tryd.ntmps20
  go_wp2
  go_loopw [3] (fun v wr => ∃ (pos f : Nat) (L : List Nat), wr.heap[w.heap.size]? = some (.stringIter s pos) ∧ wr.ownsRow (w.heap.size + 1) 3 1 v L.length (nats L) ∧ Hid (L ++ startsFrom s f pos = starts s) ∧ L.length ≤ pos ∧ s.size ≤ pos + f ∧ pos ≤ s.size ∧ Below w.heap.size w wr) (fun _ wr => s.size - wr.iterPos w.heap.size)
  case atStart => exact ⟨0, s.size, [], World.iter_heap _ _ _, World.ownsRow_nil _ _ _ _, rfl, by simp, by omega, by omega, (Below.refl _ _).alloc (Nat.le_refl _) _⟩
  case round =>
    obtain ⟨pos, f, L, hit, hown, HL, hLp, hf, hpos, hB⟩ := hrel
    by_cases hp : pos < s.size
    · have hnx : ∀ ty, (Instr.next (.pointer (some ⟨w.heap.size, 0, none⟩)) true ty).run Tryd.prog wr = _ := fun ty => Lib.run_next_any_at wr w.heap.size s pos ty hit hp
      have hd := dec_in s pos hp
      obtain ⟨wi, hwi⟩ : ∃ wi, wi = wr.iterAt w.heap.size s (pos + (Utf8.decode s pos).2) := ⟨_, rfl⟩
      have hBi : Below w.heap.size w wi := by rw [hwi]; exact Lib.below_iterAt hB (Nat.le_refl _) _ _
      have hiti : wi.heap[w.heap.size]? = some (.stringIter s (pos + (Utf8.decode s pos).2)) := by rw [hwi]; exact Lib.iterAt_heap _ _ _ _ _ hit
      have hlt : w.heap.size < wi.heap.size := by rw [hwi, Lib.iterAt_size]; exact (Array.getElem?_eq_some_iff.1 hit).1
      have howni := own_iter hown (show w.heap.size < w.heap.size + 1 by omega) s (pos + (Utf8.decode s pos).2)
      rw [← hwi] at hnx howni
      have HS := hide (starts_step hp HL.out hf)
      have HBI := hide hBi
      have HITI := hide hiti
      have HIT := hide hit
      clear hwi hBi hiti hit hB hown HL
      go_wp2_with (at_builtin; refine wpList_append_own _ rfl _ _ 33 rfl (w.heap.size + 1) 3 i0 (.int .i64 0) 1 8 Tryd.underlying33 hi hz0 hz1 hz2 rfl (by decide) _ _ _ rfl (howni.alloc _) ⟨wi.heap.size, 0, none⟩ 1 1 [.int .i64 pos] rfl rfl (cell_one_new _ _ _) (by simp [Value.oneCell']) (by unfold maxLen; omega) (by omega) (by simp; omega) ?_; intro v' w1 hown1 hgrow1 _)
      have R := hide (cst_rel HBI.out hlt HITI.out howni hown1 hgrow1)
      clear howni hown1 hgrow1
      go_roundw
      case rel => exact ⟨pos + (Utf8.decode s pos).2, f - 1, L ++ [pos], R.out.1, R.out.2.1, HS.out, by simp; omega, by omega, by omega, R.out.2.2⟩
      case measure => simp only [World.iterPos]; rw [R.out.1, HIT.out]; dsimp only; omega
    · have hnx : ∀ ty, (Instr.next (.pointer (some ⟨w.heap.size, 0, none⟩)) true ty).run Tryd.prog wr = _ := fun ty => Lib.run_next_end_at wr w.heap.size s pos ty hit hp
      go_wp2
      go_ret
      exact cst_end hp HL.out hown hB

end Go.Proofs.YtkmcfcpockpadaaDoor
