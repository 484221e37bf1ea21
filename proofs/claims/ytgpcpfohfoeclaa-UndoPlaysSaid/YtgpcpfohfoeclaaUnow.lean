/- Contracts of undo.New, (*Undo).Now and (*Undo).Move. -/
import Derived.Test.YtgpcpfohfoeclaaUat
namespace Go.Proofs.Ytgpcpfohfoeclaa
open Go.RowKit

theorem uat_new (w : World) (t wv gv : Value) (c o : Int) : UAt (w.alloc (.cells #[t, .int .i64 c, wv, gv, .int .i64 o] 57)) w.heap.size t c wv gv o := by
  refine ⟨Typed.new _ _ _, by simp, by simp, by simp, by simp, by simp, fun j => ?_⟩
  rw [frozen?_alloc_cells]; simp [World.frozen?]

set_option maxHeartbeats 400000 in
theorem unew_any (g : Nat) (c : Int) (w : World) :
    Calls Try.prog 8 #[.pointer (some ⟨g, 0, none⟩), .int .i64 c] w fun e w' => e = .returned (.pointer (some ⟨w.heap.size, 0, none⟩)) ∧ UAt w' w.heap.size (.pointer (some ⟨g, 0, none⟩)) c (.slice none 0 0) (.slice none 0 0) 0 ∧ Below w.heap.size w w' := by
  have HN := hide (uat_new w (.pointer (some ⟨g, 0, none⟩)) (.slice none 0 0) (.slice none 0 0) c 0)
  go_enter Try.func8, Try.ntmps8
  go_wp2
  go_ret
  exact ⟨rfl, HN.out, (Below.refl _ _).alloc (Nat.le_refl _) _⟩

set_option maxHeartbeats 400000 in
theorem now_any (b g : Nat) (c : Int) (wv gv : Value) (o : Int) (w : World) (h : UAt w b (.pointer (some ⟨g, 0, none⟩)) c wv gv o) :
    Calls Try.prog 16 #[.pointer (some ⟨b, 0, none⟩)] w fun e w' => e = .returned (.tuple #[.pointer (some ⟨g, 0, none⟩), .int .i64 c]) ∧ Below w.heap.size w w' := by
  have H := hide h
  obtain ⟨-, h0, h1, h2, h3, h4, h5⟩ := h
  go_enter Try.func16, Try.ntmps16
  go_wp2_with (go_at_call 24; refine (none_undo b g c _ _ o _ H.out).mono ?_; rintro e w1 ⟨rfl, rfl⟩)
  go_quiet (fail)
  go_wp2
  go_ret2
  exact ⟨rfl, below_drewNu (Below.refl _ _) _⟩

theorem UAt.cursor {W : World} {b : Nat} {t : Value} {c : Int} {wv gv : Value} {o : Int} (h : UAt W b t c wv gv o) (d : Int) : UAt (W.setCell ⟨b, 1, none⟩ (.int .i64 d)) b t d wv gv o := by
  obtain ⟨ht, h0, h1, h2, h3, h4, h5⟩ := h
  exact ⟨ht.setCell _ _, (World.cell?_setCell_other _ _ _ _ (by simp)).trans h0, World.cell?_setCell_same _ _ _ h1, (World.cell?_setCell_other _ _ _ _ (by simp)).trans h2, (World.cell?_setCell_other _ _ _ _ (by simp)).trans h3, (World.cell?_setCell_other _ _ _ _ (by simp)).trans h4, fun j => by rw [World.frozen?_setCell]; exact h5 j⟩
end Go.Proofs.Ytgpcpfohfoeclaa
