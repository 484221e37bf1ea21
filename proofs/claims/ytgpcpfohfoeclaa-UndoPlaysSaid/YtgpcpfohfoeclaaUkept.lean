/- What a change of an Undo leaves as it was: the blocks of other kinds, so the texts of pieces. The Undo as a whole. -/
import Derived.Test.YtgpcpfohfoeclaaUstep
namespace Go.Proofs.Ytgpcpfohfoeclaa
open Go.RowKit

/-- All blocks but those of states and of Undos stand as they stood. -/
def Kept (A W : World) : Prop := ∀ (k : Nat) (c : Array Value) (t : TypeId) (fz : Nat × Nat), A.heap[k]? = some (.cells c t fz) → t ≠ 54 → t ≠ 57 → W.heap[k]? = some (.cells c t fz)
theorem Kept.refl (A : World) : Kept A A := fun _ _ _ _ h _ _ => h
theorem Kept.trans {A W V : World} (h : Kept A W) (k : Kept W V) : Kept A V := fun i c t fz hi h1 h2 => k i c t fz (h i c t fz hi h1 h2) h1 h2
theorem Kept.of_below {A W : World} (h : Below A.heap.size A W) : Kept A W := fun i c t fz hi _ _ => (h.block i (Array.getElem?_eq_some_iff.1 hi).1).trans hi
theorem Kept.setCell {A W : World} {b : Nat} (h : Kept A W) (ht : Typed W b 54 ∨ Typed W b 57) (o : Nat) (v : Value) : Kept A (W.setCell ⟨b, o, none⟩ v) := by
  intro i c t fz hi h1 h2
  have h3 := h i c t fz hi h1 h2
  by_cases e : i = b
  · subst e
    rcases ht with ⟨c', fz', ht⟩ | ⟨c', fz', ht⟩
    · rw [h3] at ht; injection ht with ht; injection ht with _ ht _; exact absurd ht h1
    · rw [h3] at ht; injection ht with ht; injection ht with _ ht _; exact absurd ht h2
  · rw [Below.heap_setCell _ _ _ _ e]; exact h3
theorem Kept.grown {A W V : World} {row : Option Nat} (h : Kept A W) (hg : W.grownBy V row) (hr : ∀ k, row = some k → Typed W k 54 ∨ Typed W k 57) : Kept A V := by
  intro i c t fz hi h1 h2
  have h3 := h i c t fz hi h1 h2
  rw [hg.block i (Array.getElem?_eq_some_iff.1 h3).1 (fun e => ?_)]
  · exact h3
  · rcases hr i e.symm with ⟨c', fz', ht⟩ | ⟨c', fz', ht⟩
    · rw [h3] at ht; injection ht with ht; injection ht with _ ht _; exact h1 ht
    · rw [h3] at ht; injection ht with ht; injection ht with _ ht _; exact h2 ht
theorem below_grown {B : Nat} {a w w' : World} {row : Option Nat} (h : Below B a w) (hg : w.grownBy w' row) (hB : B ≤ w.heap.size) (hr : ∀ k, row = some k → B ≤ k) : Below B a w' :=
  ⟨hg.os.trans h.os, hg.tape.trans h.tape, hg.output.trans h.output, Nat.le_trans h.size hg.size, fun k hk => (hg.block k (by omega) (fun e => by have := hr k e.symm; omega)).trans (h.block k hk)⟩
theorem Typed.grown {W V : World} {row : Option Nat} {b : Nat} {t : TypeId} (h : Typed W b t) (hg : W.grownBy V row) (hr : some b ≠ row) : Typed V b t := by
  obtain ⟨c, fz, h⟩ := h
  exact ⟨c, fz, (hg.block b (Array.getElem?_eq_some_iff.1 h).1 hr).trans h⟩
theorem Typed.ne {W : World} {b k : Nat} {t u : TypeId} (h : Typed W b t) (h' : Typed W k u) (hn : t ≠ u) : b ≠ k := by
  rintro rfl
  obtain ⟨c, fz, h⟩ := h
  obtain ⟨c', fz', h'⟩ := h'
  rw [h] at h'
  injection h' with h'
  injection h' with _ h' _
  exact hn h'
theorem Kept.alloc {A W : World} (h : Kept A W) (o : Obj) : Kept A (W.alloc o) := fun i c t fz hi h1 h2 => (heap_alloc_old W o (Array.getElem?_eq_some_iff.1 (h i c t fz hi h1 h2)).1).trans (h i c t fz hi h1 h2)
theorem Kept.drewN {A W : World} (h : Kept A W) (n : Nat) : Kept A (W.drewN n) := h
theorem Kept.block {A W : World} {b : Nat} {t : TypeId} (h : Kept A W) (ht : Typed A b t) (h1 : t ≠ 54) (h2 : t ≠ 57) : W.heap[b]? = A.heap[b]? := by
  obtain ⟨c, fz, e⟩ := ht
  rw [e]; exact h b c t fz e h1 h2
theorem Typed.kept {A W : World} {b : Nat} {t : TypeId} (ht : Typed A b t) (h : Kept A W) (h1 : t ≠ 54) (h2 : t ≠ 57) : Typed W b t := by
  obtain ⟨c, fz, e⟩ := ht
  exact ⟨c, fz, h b c t fz e h1 h2⟩
theorem Strs.kept {A W : World} {v : Value} {zs : List ByteArray} (h : Strs A v zs) (hk : Kept A W) : Strs W v zs := by
  obtain ⟨a, cap, e, hc, h⟩ := h
  refine ⟨a, cap, e, hc, fun j hj => ?_⟩
  obtain ⟨b, o, ea, ⟨ht, hf⟩, hcell⟩ := h j hj
  exact ⟨b, o, ea, ⟨ht.kept hk (by decide) (by decide), (World.frozen?_of_block (a := ⟨b, o + j, none⟩) (hk.block ht (by decide) (by decide))).trans hf⟩, (World.cell?_of_block (a := ⟨b, o + j, none⟩) (hk.block ht (by decide) (by decide))).trans hcell⟩
theorem TextAt.kept {A W : World} {p : Value} {zs : List ByteArray} (h : TextAt A p zs) (hk : Kept A W) : TextAt W p zs := by
  obtain ⟨b, v, e, ht, h0, h1, h2, hs⟩ := h
  have hb := hk.block ht (by decide) (by decide)
  exact ⟨b, v, e, ht.kept hk (by decide) (by decide), (World.cell?_of_block (a := ⟨b, 0, none⟩) hb).trans h0, (World.cell?_of_block (a := ⟨b, 1, none⟩) hb).trans h1, (World.cell?_of_block (a := ⟨b, 2, none⟩) hb).trans h2, hs.kept hk⟩

/-- All the texts of states. -/
def Texts (W : World) (L : List (Nat × Int × ByteArray)) : Prop := ∀ x ∈ L, TextAt W (.pointer (some ⟨x.1, 0, none⟩)) (onePiece x.2.2)
theorem Texts.kept {A W : World} {L : List (Nat × Int × ByteArray)} (h : Texts A L) (hk : Kept A W) : Texts W L := fun x hx => (h x hx).kept hk
/-- An Undo: what is now, what was, what is gone, the group. -/
def Und (W : World) (B b : Nat) (cur : Nat × Int × ByteArray) (were gone : List (Nat × Int × ByteArray)) (o : Int) : Prop :=
  B ≤ b ∧ Texts W (cur :: (were ++ gone)) ∧ ∃ wv gv, UAt W b (.pointer (some ⟨cur.1, 0, none⟩)) cur.2.1 wv gv o ∧ Row W B wv were ∧ Row W B gv gone ∧ ∀ k, wv.ownBlock = some k → gv.ownBlock ≠ some k
theorem Und.below {A W : World} {B b : Nat} {cur : Nat × Int × ByteArray} {were gone : List (Nat × Int × ByteArray)} {o : Int} (h : Und A B b cur were gone o) (hb : Below A.heap.size A W) : Und W B b cur were gone o := by
  obtain ⟨h0, h1, wv, gv, h2, h3, h4, h5⟩ := h
  exact ⟨h0, h1.kept (Kept.of_below hb), wv, gv, h2.below hb, h3.below hb, h4.below hb, h5⟩

theorem UAt.set0 {W : World} {b : Nat} {t : Value} {c : Int} {wv gv : Value} {o : Int} (h : UAt W b t c wv gv o) (d : Value) : UAt (W.setCell ⟨b, 0, none⟩ d) b d c wv gv o := by
  obtain ⟨ht, h0, h1, h2, h3, h4, h5⟩ := h
  exact ⟨ht.setCell _ _, World.cell?_setCell_same _ _ _ h0, (World.cell?_setCell_other _ _ _ _ (by simp)).trans h1, (World.cell?_setCell_other _ _ _ _ (by simp)).trans h2, (World.cell?_setCell_other _ _ _ _ (by simp)).trans h3, (World.cell?_setCell_other _ _ _ _ (by simp)).trans h4, fun j => by rw [World.frozen?_setCell]; exact h5 j⟩
theorem UAt.set2 {W : World} {b : Nat} {t : Value} {c : Int} {wv gv : Value} {o : Int} (h : UAt W b t c wv gv o) (d : Value) : UAt (W.setCell ⟨b, 2, none⟩ d) b t c d gv o := by
  obtain ⟨ht, h0, h1, h2, h3, h4, h5⟩ := h
  exact ⟨ht.setCell _ _, (World.cell?_setCell_other _ _ _ _ (by simp)).trans h0, (World.cell?_setCell_other _ _ _ _ (by simp)).trans h1, World.cell?_setCell_same _ _ _ h2, (World.cell?_setCell_other _ _ _ _ (by simp)).trans h3, (World.cell?_setCell_other _ _ _ _ (by simp)).trans h4, fun j => by rw [World.frozen?_setCell]; exact h5 j⟩
theorem UAt.set3 {W : World} {b : Nat} {t : Value} {c : Int} {wv gv : Value} {o : Int} (h : UAt W b t c wv gv o) (d : Value) : UAt (W.setCell ⟨b, 3, none⟩ d) b t c wv d o := by
  obtain ⟨ht, h0, h1, h2, h3, h4, h5⟩ := h
  exact ⟨ht.setCell _ _, (World.cell?_setCell_other _ _ _ _ (by simp)).trans h0, (World.cell?_setCell_other _ _ _ _ (by simp)).trans h1, (World.cell?_setCell_other _ _ _ _ (by simp)).trans h2, World.cell?_setCell_same _ _ _ h3, (World.cell?_setCell_other _ _ _ _ (by simp)).trans h4, fun j => by rw [World.frozen?_setCell]; exact h5 j⟩
theorem UAt.set4 {W : World} {b : Nat} {t : Value} {c : Int} {wv gv : Value} {o : Int} (h : UAt W b t c wv gv o) (d : Int) : UAt (W.setCell ⟨b, 4, none⟩ (.int .i64 d)) b t c wv gv d := by
  obtain ⟨ht, h0, h1, h2, h3, h4, h5⟩ := h
  exact ⟨ht.setCell _ _, (World.cell?_setCell_other _ _ _ _ (by simp)).trans h0, (World.cell?_setCell_other _ _ _ _ (by simp)).trans h1, (World.cell?_setCell_other _ _ _ _ (by simp)).trans h2, (World.cell?_setCell_other _ _ _ _ (by simp)).trans h3, World.cell?_setCell_same _ _ _ h4, fun j => by rw [World.frozen?_setCell]; exact h5 j⟩

/-- Behind a row's growth and stores into the Undo's block: what is kept. -/
theorem grown_ends {B b : Nat} {w V w' W : World} {rv : Value} {L : List (Nat × Int × ByteArray)} (hB : B ≤ w.heap.size) (hb0 : B ≤ b) (hut : Typed w b 57) (hb : Below w.heap.size w V) (hr : Row w B rv L) (hg : V.grownBy w' rv.ownBlock) (hs : w'.grownBy W (some b)) : Kept w W ∧ Below B w W := by
  have t1 := hut.below hb
  have t2 : Typed w' b 57 := t1.grown hg (fun e => t1.ne ((hr.below hb).ownT b e.symm) (by decide) rfl)
  have hV := hb.size
  have hW := hg.size
  refine ⟨((Kept.of_below hb).grown hg fun k e => .inl ((hr.below hb).ownT k e)).grown hs fun k e => ?_, below_grown (below_grown (hb.mono hB) hg (by omega) fun k e => hr.own k e) hs (by omega) fun k e => ?_⟩
  · injection e with e; subst e; exact .inr t2
  · injection e with e; subst e; exact hb0
end Go.Proofs.Ytgpcpfohfoeclaa
