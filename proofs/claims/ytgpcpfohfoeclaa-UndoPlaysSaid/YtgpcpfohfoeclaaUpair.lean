/- Both Undos' Do side by side, whatever the group; steps over numbers; an act's own block; what the look at both takes from the world. -/
import Derived.Test.YtgpcpfohfoeclaaUplays
import Derived.Test.YtgpcpfohfoeclaaUundone
namespace Go.Proofs.Ytgpcpfohfoeclaa
open Go.RowKit

theorem do_pair (B b r : Nat) (cur : Nat × Int × ByteArray) (were gone : List (Nat × Int × ByteArray)) (o grp : Int) : ∃ (were' : List (Nat × Int × ByteArray)) (o' : Int), (∀ y ∈ were', y ∈ were ++ [cur]) ∧
    (∀ (x : Nat × Int × ByteArray) w, Und w B b cur were gone o → B ≤ w.heap.size → were.length ≤ 1000 → TextAt w (.pointer (some ⟨x.1, 0, none⟩)) (onePiece x.2.2) →
      Calls Try.prog 10 #[.pointer (some ⟨b, 0, none⟩), .pointer (some ⟨x.1, 0, none⟩), .int .i64 x.2.1, .int .i64 grp] w fun e w' => e = .returned (.bool true) ∧ Und w' B b x were' [] o' ∧ Kept w w' ∧ Below B w w') ∧
    (∀ (x : Nat × Int × ByteArray) w, Und w B b x were' [] o' → RAt w B r (mp (were ++ cur :: gone.reverse)) were.length o → were.length + gone.length ≤ 100 → B ≤ w.heap.size →
      Calls Try.prog 21 #[.pointer (some ⟨r, 0, none⟩), .string x.2.2, .int .i64 x.2.1, .int .i64 grp] w fun e w' => e = .returned (.tuple #[]) ∧ Both w' B b r x were' [] o' ∧ KeptR w w' ∧ Below B w w') := by
  by_cases hd : 0 < grp ∧ grp = o
  · obtain ⟨h0, rfl⟩ := hd
    exact ⟨were, grp, fun y h => List.mem_append_left _ h, fun x w hu hB _ hx => Do_same B b cur x were gone grp w hu hB hx h0, fun x w hu hr hn hB => both_same B b r cur x were gone grp w hu hr hn hB h0⟩
  · have hd1 : (decide (grp ≤ 0) || (grp != o)) = true := by simp; omega
    exact ⟨(were ++ [cur]).drop (were.length + 1 - 100), max grp 0, fun y h => List.mem_of_mem_drop h, fun x w hu hB hl hx => Do_open B b cur x were gone o grp w hu hB hl hx hd1, fun x w hu hr hn hB => both_do B b r cur x were gone o grp w hu hr hn hB (by omega)⟩

theorem steps_at (B b : Nat) (cur : Nat × Int × ByteArray) (were gone : List (Nat × Int × ByteArray)) (o : Int) (x y : Nat) (w : World) (h : Und w B b cur were gone o) (hx : x = were.length) (hy : y = gone.length) :
    Calls Try.prog 14 #[.pointer (some ⟨b, 0, none⟩), .int .i64 x, .int .i64 y] w fun e w' => e = .returned (.bool true) ∧ Below w.heap.size w w' := by
  subst hx hy
  exact steps_und B b cur were gone o w h

theorem below_via {A W : World} (h : Below A.drew.heap.size A.drew W) : Below A.heap.size A W := (below_drewNu (Below.refl A.heap.size A) 1).trans h

/-- An act's own block. -/
def ActAt (W : World) (b : Nat) (k t c g : Int) : Prop := Typed W b 41 ∧ W.cell? ⟨b, 0, none⟩ = some (.int .u8 k) ∧ W.cell? ⟨b, 1, none⟩ = some (.int .u8 t) ∧ W.cell? ⟨b, 2, none⟩ = some (.int .i64 c) ∧ W.cell? ⟨b, 3, none⟩ = some (.int .i64 g)
theorem ActAt.new (w : World) (k t c g : Int) : ActAt (w.alloc (.cells #[.int .u8 k, .int .u8 t, .int .i64 c, .int .i64 g] 41)) w.heap.size k t c g := ⟨Typed.new _ _ _, by simp, by simp, by simp, by simp⟩
theorem ActAt.same {A W : World} {b : Nat} {k t c g : Int} (h : ActAt A b k t c g) (hb : W.heap[b]? = A.heap[b]?) : ActAt W b k t c g :=
  ⟨h.1.same hb, (World.cell?_of_block (a := ⟨b, 0, none⟩) hb).trans h.2.1, (World.cell?_of_block (a := ⟨b, 1, none⟩) hb).trans h.2.2.1, (World.cell?_of_block (a := ⟨b, 2, none⟩) hb).trans h.2.2.2.1, (World.cell?_of_block (a := ⟨b, 3, none⟩) hb).trans h.2.2.2.2⟩
theorem ActAt.kept {A W : World} {b : Nat} {k t c g : Int} (h : ActAt A b k t c g) (hk : Kept A W) : ActAt W b k t c g := h.same (hk.block h.1 (by decide) (by decide))
theorem ActAt.below {A W : World} {b : Nat} {k t c g : Int} (h : ActAt A b k t c g) (hb : Below A.heap.size A W) : ActAt W b k t c g := h.same (hb.block b (World.block_lt_of_cell? _ _ h.2.1))
theorem ActAt.keptR {A W : World} {b : Nat} {k t c g : Int} (h : ActAt A b k t c g) (hk : KeptR A W) : ActAt W b k t c g := h.same (hk.block h.1 (by decide) (by decide))
theorem ActAt.three {W : World} {b : Nat} {k t c g : Int} (h : ActAt W b k t c g) : W.cell? ⟨b, 1, none⟩ = some (.int .u8 t) ∧ W.cell? ⟨b, 2, none⟩ = some (.int .i64 c) ∧ W.cell? ⟨b, 3, none⟩ = some (.int .i64 g) := h.2.2
theorem ActAt.three_d {W : World} {b : Nat} {k t c g : Int} (h : ActAt W b k t c g) : W.drew.cell? ⟨b, 1, none⟩ = some (.int .u8 t) ∧ W.drew.cell? ⟨b, 2, none⟩ = some (.int .i64 c) ∧ W.drew.cell? ⟨b, 3, none⟩ = some (.int .i64 g) := h.2.2

/-- All texts of states are short. -/
def Short (cur : Nat × Int × ByteArray) (were gone : List (Nat × Int × ByteArray)) : Prop := ∀ x ∈ cur :: (were ++ gone), x.2.2.size ≤ 16384
theorem Short.move {cur : Nat × Int × ByteArray} {were gone : List (Nat × Int × ByteArray)} (h : Short cur were gone) (c : Int) : Short (cur.1, c, cur.2.2) were gone := by
  intro x hx
  rcases List.mem_cons.1 hx with rfl | hx
  · exact h cur List.mem_cons_self
  · exact h x (List.mem_cons_of_mem _ hx)
theorem Short.back {cur y : Nat × Int × ByteArray} {ws gone : List (Nat × Int × ByteArray)} (h : Short cur (ws ++ [y]) gone) : Short y ws (gone ++ [cur]) := by
  intro x hx
  refine h x ?_
  simp only [List.mem_cons, List.mem_append, List.not_mem_nil, or_false] at hx ⊢
  rcases hx with h | h | h | h <;> simp [h]
theorem Short.forth {cur y : Nat × Int × ByteArray} {were gs : List (Nat × Int × ByteArray)} (h : Short cur were (gs ++ [y])) : Short y (were ++ [cur]) gs := by
  intro x hx
  refine h x ?_
  simp only [List.mem_cons, List.mem_append, List.not_mem_nil, or_false] at hx ⊢
  rcases hx with h | (h | h) | h <;> simp [h]
theorem Short.put {cur x : Nat × Int × ByteArray} {were were' gone : List (Nat × Int × ByteArray)} (h : Short cur were gone) (hx : x.2.2.size ≤ 16384) (hw : ∀ y ∈ were', y ∈ were ++ [cur]) : Short x were' [] := by
  intro y hy
  simp only [List.mem_cons, List.append_nil] at hy
  rcases hy with rfl | hy
  · exact hx
  · refine h y ?_
    have := hw y hy
    simp only [List.mem_cons, List.mem_append, List.not_mem_nil, or_false] at this ⊢
    rcases this with h | h <;> simp [h]
theorem byteS_le (t : Int) : (byteS t).size ≤ 16384 := by simp [byteS, ByteArray.size]

/-- What the look at both takes from the world. -/
def Look (W : World) (w : World) (u r g9 of9 cp9 n9 w9 : Nat) (cur : Nat × Int × ByteArray) (were gone : List (Nat × Int × ByteArray)) (o : Int) : Prop :=
  W.cell? ⟨r, 0, none⟩ = some (.slice (some ⟨g9, of9, none⟩) n9 cp9) ∧ W.cell? ⟨r, 1, none⟩ = some (.int .i64 (w9 : Nat)) ∧ Both W w.heap.size u r cur were gone o ∧ Below w.heap.size w W
theorem look_at {W w : World} {u r : Nat} {cur : Nat × Int × ByteArray} {were gone : List (Nat × Int × ByteArray)} {o : Int} (h : Both W w.heap.size u r cur were gone o) (hb : Below w.heap.size w W) : ∃ g9 of9 cp9 n9 w9 q9 z9 : Nat, Look W w u r g9 of9 cp9 n9 w9 cur were gone o ∧ w9 = were.length ∧ z9 = gone.length ∧ IntKind.i64.wrap ((n9 : Int) - 1) = (q9 : Int) ∧ IntKind.i64.wrap ((q9 : Int) - (w9 : Int)) = (z9 : Int) := by
  have h9 := h
  obtain ⟨_, ⟨h0, g, off, cap, ht, h1, h2, _⟩, hn⟩ := h
  rw [both_len] at h1
  refine ⟨g, off, cap, _, _, were.length + gone.length, gone.length, ⟨h1, h2, h9, hb⟩, rfl, rfl, ?_, ?_⟩
  · rw [IntWalk.i64_in _ (by omega)]; omega
  · rw [IntWalk.i64_in _ (by omega)]; omega
theorem look_kept {A W w : World} {u r g9 of9 cp9 n9 w9 : Nat} {cur : Nat × Int × ByteArray} {were gone : List (Nat × Int × ByteArray)} {o : Int} (h : A.cell? ⟨r, 0, none⟩ = some (.slice (some ⟨g9, of9, none⟩) n9 cp9) ∧ A.cell? ⟨r, 1, none⟩ = some (.int .i64 (w9 : Nat)) ∧ Both A w.heap.size u r cur were gone o ∧ Below w.heap.size w A) (hb : Below A.heap.size A W) : Look W w u r g9 of9 cp9 n9 w9 cur were gone o :=
  ⟨(hb.cell (p := ⟨r, 0, none⟩) (World.block_lt_of_cell? _ _ h.1)).trans h.1, (hb.cell (p := ⟨r, 1, none⟩) (World.block_lt_of_cell? _ _ h.2.1)).trans h.2.1, h.2.2.1.below hb, h.2.2.2.trans (hb.mono h.2.2.2.size)⟩
theorem Look.drew {W w : World} {u r g9 of9 cp9 n9 w9 : Nat} {cur : Nat × Int × ByteArray} {were gone : List (Nat × Int × ByteArray)} {o : Int} (h : Look W w u r g9 of9 cp9 n9 w9 cur were gone o) : Look W.drew w u r g9 of9 cp9 n9 w9 cur were gone o := look_kept h (below_drewNu (Below.refl _ _) 1)
theorem field_s (s : ByteArray) (c : Int) (W : World) : (Instr.field 43 (.agg #[.string s, .int .i64 c]) 0).run Try.prog W = .ok (.string s) W ∧ (Instr.field 43 (.agg #[.string s, .int .i64 c]) 1).run Try.prog W = .ok (.int .i64 c) W := by
  constructor <;> simp [Instr.field, run_underlying Try.underlying43, go_sem, asAgg]
end Go.Proofs.Ytgpcpfohfoeclaa
