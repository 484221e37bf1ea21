/- The reference's Undo: its block and its list; contracts of limnerref05's New and Now. -/
import Derived.Test.YtgpcpfohfoeclaaUmove
namespace Go.Proofs.Ytgpcpfohfoeclaa
open Go.RowKit

/-- The cells of some states of the reference. -/
def flatR (L : List (ByteArray × Int)) : List Value := L.flatMap fun x => [.string x.1, .int .i64 x.2]
theorem flatR_len (L : List (ByteArray × Int)) : (flatR L).length = L.length * 2 := by
  unfold flatR
  induction L with
  | nil => rfl
  | cons a l ih => simp only [List.flatMap_cons, List.length_append, List.length_cons, List.length_nil] at ih ⊢; omega
theorem flatR_at {L : List (ByteArray × Int)} {i : Nat} {x : ByteArray × Int} (h : L[i]? = some x) : (flatR L)[i * 2]? = some (.string x.1) ∧ (flatR L)[i * 2 + 1]? = some (.int .i64 x.2) := by
  induction L generalizing i with
  | nil => simp at h
  | cons a l ih =>
    cases i with
    | zero => obtain rfl : a = x := by simpa using h
              exact ⟨rfl, rfl⟩
    | succ i =>
      have := ih (i := i) (by simpa using h)
      have e : flatR (a :: l) = .string a.1 :: .int .i64 a.2 :: flatR l := rfl
      rw [e, show (i + 1) * 2 = i * 2 + 1 + 1 by omega, show i * 2 + 1 + 1 + 1 = (i * 2 + 1) + 1 + 1 by omega]
      exact this
/-- The reference's Undo: all states, which one is now, the group. -/
def RAt (W : World) (B r : Nat) (L : List (ByteArray × Int)) (at1 : Nat) (o : Int) : Prop :=
  B ≤ r ∧ ∃ g off cap, Typed W r 51 ∧ W.cell? ⟨r, 0, none⟩ = some (.slice (some ⟨g, off, none⟩) L.length cap) ∧ W.cell? ⟨r, 1, none⟩ = some (.int .i64 (at1 : Nat)) ∧ W.cell? ⟨r, 2, none⟩ = some (.int .i64 o) ∧ (∀ j, W.frozen? ⟨r, j, none⟩ = false) ∧
    Typed W g 43 ∧ L.length ≤ cap ∧ at1 < L.length ∧ ∀ j u, (flatR L)[j]? = some u → W.cell? ⟨g, off + j, none⟩ = some u
theorem RAt.below {A W : World} {B r : Nat} {L : List (ByteArray × Int)} {at1 : Nat} {o : Int} (h : RAt A B r L at1 o) (hb : Below A.heap.size A W) : RAt W B r L at1 o := by
  obtain ⟨h0, g, off, cap, ht, h1, h2, h3, h4, h5, h6, h7, h8⟩ := h
  have hlt : r < A.heap.size := World.block_lt_of_cell? _ _ h1
  exact ⟨h0, g, off, cap, ht.below hb, (hb.cell (p := ⟨r, 0, none⟩) hlt).trans h1, (hb.cell (p := ⟨r, 1, none⟩) hlt).trans h2, (hb.cell (p := ⟨r, 2, none⟩) hlt).trans h3, fun j => (hb.frozen (p := ⟨r, j, none⟩) hlt).trans (h4 j), h5.below hb, h6, h7,
    fun j u hu => (hb.cell (p := ⟨g, off + j, none⟩) (World.block_lt_of_cell? _ _ (h8 j u hu))).trans (h8 j u hu)⟩
/-- What the Undo's acts leave as it was serves the reference. -/
theorem RAt.kept {A W : World} {B r : Nat} {L : List (ByteArray × Int)} {at1 : Nat} {o : Int} (h : RAt A B r L at1 o) (hk : Kept A W) : RAt W B r L at1 o := by
  obtain ⟨h0, g, off, cap, ht, h1, h2, h3, h4, h5, h6, h7, h8⟩ := h
  have hr := hk.block ht (by decide) (by decide)
  have hg := hk.block h5 (by decide) (by decide)
  exact ⟨h0, g, off, cap, ht.kept hk (by decide) (by decide), (World.cell?_of_block (a := ⟨r, 0, none⟩) hr).trans h1, (World.cell?_of_block (a := ⟨r, 1, none⟩) hr).trans h2, (World.cell?_of_block (a := ⟨r, 2, none⟩) hr).trans h3, fun j => (World.frozen?_of_block (a := ⟨r, j, none⟩) hr).trans (h4 j), h5.kept hk (by decide) (by decide), h6, h7,
    fun j u hu => (World.cell?_of_block (a := ⟨g, off + j, none⟩) hg).trans (h8 j u hu)⟩

attribute [local go_sem] cell_same in
set_option maxHeartbeats 1000000 in
theorem rnow_any (B r : Nat) (L : List (ByteArray × Int)) (at1 : Nat) (o : Int) (x : ByteArray × Int) (w : World) (h : RAt w B r L at1 o) (hx : L[at1]? = some x) :
    Calls Try.prog 22 #[.pointer (some ⟨r, 0, none⟩)] w fun e w' => e = .returned (.agg #[.string x.1, .int .i64 x.2]) ∧ Below w.heap.size w w' := by
  obtain ⟨h0, g, off, cap, ht, h1, h2, h3, h4, h5, h6, h7, h8⟩ := h
  obtain ⟨e1, e2⟩ := flatR_at hx
  have c1 := h8 _ _ e1
  have c2 := h8 _ _ e2
  rw [← Nat.add_assoc] at c2
  have l1 := World.block_lt_of_cell? _ _ h1
  have l2 := World.block_lt_of_cell? _ _ c1
  clear h8 e1 e2
  go_enter Try.func22, Try.ntmps22
  go_wp2
  go_region
  all_goals go_wp2
  refine bodyPost_ret (by simp [results, Try.results22, go_sem, cell_same]; try rfl) rfl ?_
  exact ⟨rfl, below_drewNu ((Below.refl _ _).alloc (Nat.le_refl _) _) 1⟩

/-- All blocks but those of the reference stand as they stood. -/
def KeptR (A W : World) : Prop := A.heap.size ≤ W.heap.size ∧ ∀ (k : Nat) (c : Array Value) (t : TypeId) (fz : Nat × Nat), A.heap[k]? = some (.cells c t fz) → t ≠ 43 → t ≠ 51 → W.heap[k]? = some (.cells c t fz)
theorem KeptR.refl (A : World) : KeptR A A := ⟨Nat.le_refl _, fun _ _ _ _ h _ _ => h⟩
theorem KeptR.trans {A W V : World} (h : KeptR A W) (k : KeptR W V) : KeptR A V := ⟨Nat.le_trans h.1 k.1, fun i c t fz hi h1 h2 => k.2 i c t fz (h.2 i c t fz hi h1 h2) h1 h2⟩
theorem KeptR.of_below {A W : World} (h : Below A.heap.size A W) : KeptR A W := ⟨h.size, fun i c t fz hi _ _ => (h.block i (Array.getElem?_eq_some_iff.1 hi).1).trans hi⟩
theorem KeptR.grown {A W V : World} {row : Option Nat} (h : KeptR A W) (hg : W.grownBy V row) (hr : ∀ k, row = some k → Typed W k 43 ∨ Typed W k 51) : KeptR A V := by
  refine ⟨Nat.le_trans h.1 hg.size, fun i c t fz hi h1 h2 => ?_⟩
  have h3 := h.2 i c t fz hi h1 h2
  rw [hg.block i (Array.getElem?_eq_some_iff.1 h3).1 (fun e => ?_)]
  · exact h3
  · rcases hr i e.symm with ⟨c', fz', ht⟩ | ⟨c', fz', ht⟩
    · rw [h3] at ht; injection ht with ht; injection ht with _ ht _; exact h1 ht
    · rw [h3] at ht; injection ht with ht; injection ht with _ ht _; exact h2 ht
theorem KeptR.block {A W : World} {b : Nat} {t : TypeId} (h : KeptR A W) (ht : Typed A b t) (h1 : t ≠ 43) (h2 : t ≠ 51) : W.heap[b]? = A.heap[b]? := by
  obtain ⟨c, fz, e⟩ := ht
  rw [e]; exact h.2 b c t fz e h1 h2
theorem Typed.same {A W : World} {b : Nat} {t : TypeId} (ht : Typed A b t) (h : W.heap[b]? = A.heap[b]?) : Typed W b t := by
  obtain ⟨c, fz, e⟩ := ht
  exact ⟨c, fz, h.trans e⟩
theorem TextAt.keptR {A W : World} {p : Value} {zs : List ByteArray} (h : TextAt A p zs) (hk : KeptR A W) : TextAt W p zs := by
  obtain ⟨b, v, e, ht, h0, h1, h2, a, cap, e2, hc, hs⟩ := h
  have hb := hk.block ht (by decide) (by decide)
  refine ⟨b, v, e, ht.same hb, (World.cell?_of_block (a := ⟨b, 0, none⟩) hb).trans h0, (World.cell?_of_block (a := ⟨b, 1, none⟩) hb).trans h1, (World.cell?_of_block (a := ⟨b, 2, none⟩) hb).trans h2, a, cap, e2, hc, fun j hj => ?_⟩
  obtain ⟨b', o, ea, ⟨ht', hf⟩, hcell⟩ := hs j hj
  have hb' := hk.block ht' (by decide) (by decide)
  exact ⟨b', o, ea, ⟨ht'.same hb', (World.frozen?_of_block (a := ⟨b', o + j, none⟩) hb').trans hf⟩, (World.cell?_of_block (a := ⟨b', o + j, none⟩) hb').trans hcell⟩
/-- What the reference's acts leave as it was serves the Undo. -/
theorem Und.keptR {A W : World} {B b : Nat} {cur : Nat × Int × ByteArray} {were gone : List (Nat × Int × ByteArray)} {o : Int} (h : Und A B b cur were gone o) (hk : KeptR A W) : Und W B b cur were gone o := by
  obtain ⟨h0, h1, wv, gv, h2, h3, h4, h5⟩ := h
  exact ⟨h0, fun x hx => (h1 x hx).keptR hk, wv, gv, h2.same (hk.block h2.1 (by decide) (by decide)), h3.same hk.1 fun k e => hk.block (h3.ownT k e) (by decide) (by decide), h4.same hk.1 fun k e => hk.block (h4.ownT k e) (by decide) (by decide), h5⟩

set_option maxHeartbeats 1000000 in
theorem rnew_any (B : Nat) (s : ByteArray) (c : Int) (w : World) (hB : B ≤ w.heap.size) :
    Calls Try.prog 17 #[.string s, .int .i64 c] w fun e w' => ∃ r, e = .returned (.pointer (some ⟨r, 0, none⟩)) ∧ RAt w' B r [(s, c)] 0 0 ∧ Below w.heap.size w w' := by
  go_enter Try.func17, Try.ntmps17
  go_wp2
  go_ret
  have hb1 : Below w.heap.size w (w.alloc (.cells #[.string s, .int .i64 c] 43)) := (Below.refl _ _).alloc (Nat.le_refl _) _
  refine ⟨_, rfl, ⟨Nat.le_trans hB (by simp), w.heap.size, 0, 1, (by simpa using Typed.new (w.alloc (.cells #[.string s, .int .i64 c] 43)) #[.slice (some ⟨w.heap.size, 0, none⟩) 1 1, .int .i64 0, .int .i64 0] 51), by simp, by simp, by simp, fun j => ?_, (Typed.new w _ _).below ((Below.refl _ _).alloc (Nat.le_refl _) _), by simp, by simp, fun j u hu => ?_⟩, hb1.alloc hb1.size _⟩
  · rw [frozen?_alloc_cells]; simp [World.frozen?]
  · match j, hu with
    | 0, hu => obtain rfl : Value.string s = u := by simpa [flatR] using hu
               simp
    | 1, hu => obtain rfl : Value.int .i64 c = u := by simpa [flatR] using hu
               simp
end Go.Proofs.Ytgpcpfohfoeclaa
