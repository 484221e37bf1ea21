/- limnerlaw03.PiecesPlay: what is too long, and a text that is refused; and what the loops' walks take. -/
import Derived.Test.YtmllbaacjodccaaQplay1
import Derived.Deep.RegionHeld3
namespace Go.Proofs.Ytmllbaacjodccaa
open Go.RowKit

set_option maxHeartbeats 1000000 in
set_option maxRecDepth 100000 in
theorem play_long (s : ByteArray) (v : Value) (w : World) (hs : 17000 < s.size) (hm : s.size ≤ maxLen) :
    Calls Try.prog 6 #[.string s, v] w fun e w' => e = .returned (.bool true) ∧ Below w.heap.size w w' := by
  unfold maxLen at hm
  have h1 : (17000 : Int) < (s.size : Int) := by omega
  go_enter Try.func6, Try.ntmps6
  go_wp2_with fail
  refine (put_any w).mono ?_; rintro e w1 ⟨rfl, b1⟩
  go_wp2
  go_ret
  exact ⟨rfl, b1⟩
set_option maxHeartbeats 1000000 in
set_option maxRecDepth 100000 in
theorem play_many (s : ByteArray) (A : Option Addr) (m cap : Nat) (w : World) (hs : s.size ≤ 17000) (hm : 60 < m) (hcap : m ≤ cap) (hc : cap ≤ maxLen) :
    Calls Try.prog 6 #[.string s, .slice A m cap] w fun e w' => e = .returned (.bool true) ∧ Below w.heap.size w w' := by
  unfold maxLen at hc
  have h1 : ¬ (17000 : Int) < (s.size : Int) := by omega
  have h2 : (60 : Int) < (m : Int) := by omega
  go_enter Try.func6, Try.ntmps6
  go_wp2_with fail
  refine (put_any w).mono ?_; rintro e w1 ⟨rfl, b1⟩
  go_wp2
  go_ret
  exact ⟨rfl, b1⟩
set_option maxHeartbeats 1000000 in
set_option maxRecDepth 100000 in
theorem play_full (s : ByteArray) (A : Option Addr) (m cap : Nat) (w : World) (hs : s.size ≤ 17000) (hf : 16384 < s.size) (hm : m ≤ 60) :
    Calls Try.prog 6 #[.string s, .slice A m cap] w fun e w' => e = .returned (.bool true) ∧ Below w.heap.size w w' := by
  have h1 : ¬ (17000 : Int) < (s.size : Int) := by omega
  have h2 : ¬ (60 : Int) < (m : Int) := by omega
  have HN := rnew3 s w (by omega)
  rw [if_pos hf] at HN
  have HN := hide HN
  go_enter Try.func6, Try.ntmps6
  go_wp2_with fail
  refine (new_fullQ s w hf (by omega)).mono ?_; rintro e w1 ⟨rfl, rfl⟩
  go_wp2_with fail
  refine HN.out.mono ?_; rintro e w1 ⟨rfl, rfl⟩
  go_wp2_with fail
  refine (put_any w).mono ?_; rintro e w1 ⟨rfl, b1⟩
  go_wp2
  go_ret
  exact ⟨rfl, b1⟩

/-- An act's copy in its block. -/
def ActQ (W : World) (b : Nat) (k f t : Int) (S : ByteArray) : Prop := W.cell? ⟨b, 0, none⟩ = some (.int .u8 k) ∧ W.cell? ⟨b, 1, none⟩ = some (.int .i64 f) ∧ W.cell? ⟨b, 2, none⟩ = some (.int .i64 t) ∧ W.cell? ⟨b, 3, none⟩ = some (.string S)
theorem ActQ.new (w : World) (k f t : Int) (S : ByteArray) : ActQ (w.alloc (.cells #[.int .u8 k, .int .i64 f, .int .i64 t, .string S] 45)) w.heap.size k f t S := ⟨by simp, by simp, by simp, by simp⟩
theorem ActQ.below {A W : World} {b : Nat} {k f t : Int} {S : ByteArray} (h : ActQ A b k f t S) (hb : Below A.heap.size A W) : ActQ W b k f t S := by
  obtain ⟨h0, h1, h2, h3⟩ := h
  have hl := World.block_lt_of_cell? _ _ h0
  exact ⟨(hb.cell (p := ⟨b, 0, none⟩) hl).trans h0, (hb.cell (p := ⟨b, 1, none⟩) hl).trans h1, (hb.cell (p := ⟨b, 2, none⟩) hl).trans h2, (hb.cell (p := ⟨b, 3, none⟩) hl).trans h3⟩
theorem cell_below {A W : World} {a : Addr} {v : Value} (h : A.cell? a = some v) (hb : Below A.heap.size A W) : W.cell? a = some v := (hb.cell (World.block_lt_of_cell? _ _ h)).trans h
/-- Two cells and what lies below, kept. -/
theorem keep2 {A W V : World} {a b : Addr} {u v : Value} (h : W.cell? a = some u ∧ W.cell? b = some v ∧ Hid (Below A.heap.size A W)) (hb : Below W.heap.size W V) : V.cell? a = some u ∧ V.cell? b = some v ∧ Hid (Below A.heap.size A V) :=
  ⟨cell_below h.1 hb, cell_below h.2.1 hb, hide (h.2.2.out.trans (hb.mono h.2.2.out.size))⟩
theorem keep2d {A : World} {a b : Addr} {u v : Value} (h : A.cell? a = some u ∧ A.cell? b = some v) : A.drew.cell? a = some u ∧ A.drew.cell? b = some v ∧ Hid (Below A.heap.size A A.drew) :=
  keep2 ⟨h.1, h.2, hide (Below.refl _ _)⟩ (below_drewP (Below.refl _ _))
theorem keep2c {W V : World} {a b : Addr} {u v : Value} (h : W.cell? a = some u ∧ W.cell? b = some v) (hb : Below W.heap.size W V) : V.cell? a = some u ∧ V.cell? b = some v := ⟨cell_below h.1 hb, cell_below h.2 hb⟩
theorem keep2T {W V : World} {g g' k n : Nat} {u v : Value} (hg : W.grownBy V (some g)) (hk : ∀ j, j < n → V.cell? ⟨g, j, none⟩ = W.cell? ⟨g, j, none⟩) (hlt : k < n) (hne : g ≠ g') (h : W.cell? ⟨g, k, none⟩ = some u ∧ W.cell? ⟨g', k, none⟩ = some v) : V.cell? ⟨g, k, none⟩ = some u ∧ V.cell? ⟨g', k, none⟩ = some v :=
  ⟨(hk k hlt).trans h.1, hg.cell h.2 (fun e => by injection e with e; exact hne e.symm)⟩
theorem keep2S {W V : World} {g g' k n : Nat} {u v : Value} (hg : W.grownBy V (some g')) (hk : ∀ j, j < n → V.cell? ⟨g', j, none⟩ = W.cell? ⟨g', j, none⟩) (hlt : k < n) (hne : g ≠ g') (h : W.cell? ⟨g, k, none⟩ = some u ∧ W.cell? ⟨g', k, none⟩ = some v) : V.cell? ⟨g, k, none⟩ = some u ∧ V.cell? ⟨g', k, none⟩ = some v :=
  ⟨hg.cell h.1 (fun e => by injection e with e; exact hne e), (hk k hlt).trans h.2⟩
theorem bt1 (w : World) (x : Obj) : Below w.heap.size w (w.alloc x).drew := below_drewP (below_allocP (Below.refl _ _) _)
theorem bt2 (w : World) (x y : Obj) : Below w.heap.size w ((w.alloc x).alloc y).drew := below_drewP (below_allocP (below_allocP (Below.refl _ _) _) _)
theorem cn0 (w : World) (v : Value) (t : TypeId) : (w.alloc (.cells #[v] t)).cell? ⟨w.heap.size, 0, none⟩ = some v := by simp
theorem cn1 (w : World) (v : Value) (t : TypeId) : (w.alloc (.cells #[v] t)).drew.cell? ⟨w.heap.size, 0, none⟩ = some v := by simp
theorem cn2 (w : World) (x : Obj) (v : Value) (t : TypeId) : ((w.alloc x).alloc (.cells #[v] t)).drew.cell? ⟨w.heap.size + 1, 0, none⟩ = some v := by simp
theorem cn3 (w : World) (v : Value) (t : TypeId) (x : Obj) : ((w.alloc (.cells #[v] t)).alloc x).drew.cell? ⟨w.heap.size, 0, none⟩ = some v :=
  cell_below (cell_below (cn0 w v t) (below_allocP (Below.refl _ _) x)) (below_drewP (Below.refl _ _))
theorem below_eqQ {A W : World} (h : A = W) : Below A.heap.size A W := h ▸ Below.refl _ _
end Go.Proofs.Ytmllbaacjodccaa
