/- Contract of (*Undo).Move. -/
import Derived.Test.YtgpcpfohfoeclaaUacts
namespace Go.Proofs.Ytgpcpfohfoeclaa
open Go.RowKit

set_option maxHeartbeats 1000000 in
theorem Move_und (B b : Nat) (cur : Nat × Int × ByteArray) (were gone : List (Nat × Int × ByteArray)) (o c : Int) (w : World) (h : Und w B b cur were gone o) (hB : B ≤ w.heap.size) :
    Calls Try.prog 19 #[.pointer (some ⟨b, 0, none⟩), .int .i64 c] w fun e w' => e = .returned (.tuple #[]) ∧ Und w' B b (cur.1, c, cur.2.2) were gone o ∧ Kept w w' ∧ Below B w w' := by
  obtain ⟨h0, h1, wv, gv, h2, h3, h4, h5⟩ := h
  have HU := hide h2
  have HR := hide h3
  have HG := hide h4
  have H1 := hide h1
  have HB := hide hB
  have H5 := hide h5
  obtain ⟨ut, u0, u1, u2, u3, u4, uf⟩ := h2
  have ul := World.block_lt_of_cell? _ _ u0
  clear h3 h4 h5 h1 hB
  go_enter Try.func19, Try.ntmps19
  go_wp2_with fail
  refine (none_undo b _ _ _ _ o _ HU.out).mono ?_; rintro e w1 ⟨rfl, rfl⟩
  go_wp2
  go_end0
  refine ⟨rfl, ?_⟩
  have hs := grown_setCell w b 1 (.int .i64 c)
  have hk1 : Kept w (w.setCell ⟨b, 1, none⟩ (.int .i64 c)) := (Kept.refl w).grown hs fun k e => by injection e with e; subst e; exact .inr ut
  have hb1 : Below B w (w.setCell ⟨b, 1, none⟩ (.int .i64 c)) := below_grown (Below.refl _ _) hs HB.out fun k e => by injection e with e; omega
  have row : ∀ v L, Row w B v L → Row (w.setCell ⟨b, 1, none⟩ (.int .i64 c)) B v L := fun v L hr => hr.same hs.size fun j e => by
    have hT := hr.ownT j e
    exact hs.block j (by obtain ⟨c, fz, hh⟩ := hT; exact (Array.getElem?_eq_some_iff.1 hh).1) (fun e => by injection e with e; subst e; exact ut.ne hT (by decide) rfl)
  refine ⟨⟨h0, ?_, wv, gv, HU.out.cursor c, row _ _ HR.out, row _ _ HG.out, H5.out⟩, hk1, hb1⟩
  intro y hy
  rcases List.mem_cons.1 hy with rfl | hy
  · exact (H1.out cur List.mem_cons_self).kept hk1
  · exact (H1.out y (List.mem_cons_of_mem _ hy)).kept hk1
end Go.Proofs.Ytgpcpfohfoeclaa
