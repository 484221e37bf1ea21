/- The Undo's block; contracts of (*Undo).none, (*Undo).Steps and limnerlaw05.steps. -/
import Derived.Test.YtgpcpfohfoeclaaUis
import Derived.BigQuiet
import Derived.Deep.QuietTactic
namespace Go.Proofs.Ytgpcpfohfoeclaa
open Go.RowKit

/-- The five cells of an Undo: its text, its cursor, what was, what is gone, the group. -/
def UAt (W : World) (b : Nat) (t : Value) (c : Int) (wv gv : Value) (o : Int) : Prop :=
  Typed W b 57 ∧ W.cell? ⟨b, 0, none⟩ = some t ∧ W.cell? ⟨b, 1, none⟩ = some (.int .i64 c) ∧ W.cell? ⟨b, 2, none⟩ = some wv ∧ W.cell? ⟨b, 3, none⟩ = some gv ∧ W.cell? ⟨b, 4, none⟩ = some (.int .i64 o) ∧ ∀ j, W.frozen? ⟨b, j, none⟩ = false
theorem UAt.below {A W : World} {b : Nat} {t : Value} {c : Int} {wv gv : Value} {o : Int} (h : UAt A b t c wv gv o) (hb : Below A.heap.size A W) : UAt W b t c wv gv o := by
  obtain ⟨ht, h0, h1, h2, h3, h4, h5⟩ := h
  have hlt : b < A.heap.size := World.block_lt_of_cell? _ _ h0
  exact ⟨ht.below hb, (hb.cell (p := ⟨b, 0, none⟩) hlt).trans h0, (hb.cell (p := ⟨b, 1, none⟩) hlt).trans h1, (hb.cell (p := ⟨b, 2, none⟩) hlt).trans h2, (hb.cell (p := ⟨b, 3, none⟩) hlt).trans h3, (hb.cell (p := ⟨b, 4, none⟩) hlt).trans h4, fun j => (hb.frozen (p := ⟨b, j, none⟩) hlt).trans (h5 j)⟩

set_option maxHeartbeats 400000 in
theorem none_undo (b g : Nat) (c : Int) (wv gv : Value) (o : Int) (w : World) (h : UAt w b (.pointer (some ⟨g, 0, none⟩)) c wv gv o) :
    Calls Try.prog 24 #[.pointer (some ⟨b, 0, none⟩)] w fun e w' => e = .returned (.bool false) ∧ w = w' := by
  obtain ⟨-, h0, h1, h2, h3, h4, h5⟩ := h
  go_enter Try.func24, Try.ntmps24
  go_wp2
  go_ret
  exact ⟨rfl, rfl⟩
theorem below_drewNu {B : Nat} {a w : World} (h : Below B a w) (n : Nat) : Below B a (w.drewN n) := ⟨h.os, h.tape, h.output, h.size, h.block⟩
set_option maxHeartbeats 400000 in
theorem Steps_any (b g : Nat) (c : Int) (A A' : Option Addr) (n n' k k' : Nat) (o : Int) (w : World) (h : UAt w b (.pointer (some ⟨g, 0, none⟩)) c (.slice A n k) (.slice A' n' k') o) :
    Calls Try.prog 27 #[.pointer (some ⟨b, 0, none⟩)] w fun e w' => e = .returned (.tuple #[.int .i64 n, .int .i64 n']) ∧ Below w.heap.size w w' := by
  have H := hide h
  obtain ⟨-, h0, h1, h2, h3, h4, h5⟩ := h
  go_enter Try.func27, Try.ntmps27
  go_wp2_with (go_at_call 24; refine (none_undo b g c _ _ o _ H.out).mono ?_; rintro e w1 ⟨rfl, rfl⟩)
  go_quiet (fail)
  go_wp2
  go_ret2
  exact ⟨rfl, below_drewNu (Below.refl _ _) _⟩
set_option maxHeartbeats 400000 in
theorem steps_true (b g : Nat) (c : Int) (A A' : Option Addr) (n n' k k' : Nat) (o : Int) (w : World) (h : UAt w b (.pointer (some ⟨g, 0, none⟩)) c (.slice A n k) (.slice A' n' k') o) :
    Calls Try.prog 14 #[.pointer (some ⟨b, 0, none⟩), .int .i64 n, .int .i64 n'] w fun e w' => e = .returned (.bool true) ∧ Below w.heap.size w w' := by
  have H := hide h
  clear h
  go_enter Try.func14, Try.ntmps14
  go_wp2_with (go_at_call 27; refine (Steps_any b g c A A' n n' k k' o _ H.out).mono ?_; rintro e w1 ⟨rfl, hb1⟩)
  go_ret
  exact ⟨rfl, hb1⟩
end Go.Proofs.Ytgpcpfohfoeclaa
