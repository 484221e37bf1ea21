/- Contract of (*Undo).Do. -/
import Derived.Test.YtgpcpfohfoeclaaUkept
namespace Go.Proofs.Ytgpcpfohfoeclaa
open Go.RowKit

theorem new_pair (w : World) (g : Nat) (c : Int) : ∀ j u, ([.pointer (some ⟨g, 0, none⟩), .int .i64 c] : List Value)[j]? = some u → (w.alloc (.cells #[.pointer (some ⟨g, 0, none⟩), .int .i64 c] 54)).drew.cell? (Addr.add ⟨w.heap.size, 0, none⟩ j) = some u := by
  intro j u h
  have e : ∀ a, (w.alloc (.cells #[.pointer (some ⟨g, 0, none⟩), .int .i64 c] 54)).drew.cell? a = (w.alloc (.cells #[.pointer (some ⟨g, 0, none⟩), .int .i64 c] 54)).cell? a := fun _ => rfl
  rw [Addr.add_lit, e, cell_first]
  match j, h with
  | 0, h => exact h
  | 1, h => exact h
theorem Row.cap {W : World} {B g off n cap : Nat} {L : List (Nat × Int × ByteArray)} (h : Row W B (.slice (some ⟨g, off, none⟩) n cap) L) : L.length ≤ cap := by
  rcases h with ⟨e, _⟩ | ⟨g', off', cap', e, hg, hty, hl, h1, r⟩
  · cases e
  · injection e with e1 e2 e3
    omega
theorem Row.slice {W : World} {B : Nat} {v : Value} {L : List (Nat × Int × ByteArray)} (h : Row W B v L) (n : Nat) (hn : L.length = n + 1) : ∃ g off cap, v = .slice (some ⟨g, off, none⟩) (n + 1) cap := by
  rcases h with ⟨_, rfl⟩ | ⟨g, off, cap, e, r⟩
  · simp at hn
  · exact ⟨g, off, cap, by rw [e, hn]⟩
theorem UAt.same {A W : World} {b : Nat} {t : Value} {c : Int} {wv gv : Value} {o : Int} (h : UAt A b t c wv gv o) (hk : W.heap[b]? = A.heap[b]?) : UAt W b t c wv gv o := by
  obtain ⟨ht, h0, h1, h2, h3, h4, h5⟩ := h
  have hc : ∀ j, W.cell? ⟨b, j, none⟩ = A.cell? ⟨b, j, none⟩ := fun j => World.cell?_of_block hk
  have hf : ∀ j, W.frozen? ⟨b, j, none⟩ = A.frozen? ⟨b, j, none⟩ := fun j => World.frozen?_of_block hk
  obtain ⟨c9, f9, ht⟩ := ht
  exact ⟨⟨c9, f9, hk.trans ht⟩, (hc 0).trans h0, (hc 1).trans h1, (hc 2).trans h2, (hc 3).trans h3, (hc 4).trans h4, fun j => (hf j).trans (h5 j)⟩
/-- The Undo's block stays where a row of states grows. -/
theorem UAt.grown {A V W : World} {B b : Nat} {t : Value} {c : Int} {wv gv rv : Value} {o : Int} {L : List (Nat × Int × ByteArray)} (h : UAt A b t c wv gv o) (hb : Below A.heap.size A V) (hg : V.grownBy W rv.ownBlock) (hr : Row A B rv L) : UAt W b t c wv gv o := by
  have hv := h.below hb
  refine hv.same (hg.block b (World.block_lt_of_cell? _ _ hv.2.1) fun e => ?_)
  exact h.1.ne (hr.ownT b e.symm) (by decide) rfl

theorem Do_end {B b : Nat} {cur x : Nat × Int × ByteArray} {were gone : List (Nat × Int × ByteArray)} {o' : Int} {w V w' W : World} {wv : Value} {g9 o9 c9 k : Nat} (hk : k ≤ were.length + 1) (h0 : B ≤ b) (hB : B ≤ w.heap.size) (h1 : Texts w (cur :: (were ++ gone))) (hr : Row w B wv were)
    (hx : TextAt w (.pointer (some ⟨x.1, 0, none⟩)) (onePiece x.2.2)) (hut : Typed w b 57) (hb : Below w.heap.size w V) (hg : V.grownBy w' wv.ownBlock) (hr9 : Row w' B (.slice (some ⟨g9, o9, none⟩) (were.length + 1) c9) (were ++ [cur]))
    (hU : UAt W b (.pointer (some ⟨x.1, 0, none⟩)) x.2.1 (.slice (some ⟨g9, o9 + k * 2, none⟩) (were.length + 1 - k) (c9 - k)) (.slice none 0 0) o') (hs : w'.grownBy W (some b)) :
    Und W B b x ((were ++ [cur]).drop k) [] o' ∧ Kept w W ∧ Below B w W := by
  obtain ⟨hk1, hb1⟩ := grown_ends hB h0 hut hb hr hg hs
  have t1 := hut.below hb
  have t2 : Typed w' b 57 := t1.grown hg (fun e => t1.ne ((hr.below hb).ownT b e.symm) (by decide) rfl)
  refine ⟨⟨h0, ?_, _, _, hU, ?_, Row.nil _ _, fun _ _ e => by cases e⟩, hk1, hb1⟩
  · intro y hy
    rcases List.mem_cons.1 hy with rfl | hy
    · exact hx.kept hk1
    · rw [List.append_nil] at hy
      rcases List.mem_append.1 (List.mem_of_mem_drop hy) with hy | hy
      · exact (h1 y (List.mem_cons_of_mem _ (List.mem_append_left _ hy))).kept hk1
      · rw [List.mem_singleton.1 hy]; exact (h1 cur List.mem_cons_self).kept hk1
  · have e1 : (were ++ [cur]).length = were.length + 1 := by simp
    have h := Row.skip (L := were ++ [cur]) k (by omega) (by rw [e1]; exact hr9)
    rw [e1] at h
    refine h.same hs.size fun j e => ?_
    have hT := h.ownT j e
    exact hs.block j (by obtain ⟨c, fz, hh⟩ := hT; exact (Array.getElem?_eq_some_iff.1 hh).1) (fun e => by injection e with e; subst e; exact t2.ne hT (by decide) rfl)

theorem ends_drew {B b : Nat} {x : Nat × Int × ByteArray} {A G : List (Nat × Int × ByteArray)} {o' : Int} {w W : World} (h : Und W B b x A G o' ∧ Kept w W ∧ Below B w W) : Und W.drew B b x A G o' ∧ Kept w W.drew ∧ Below B w W.drew := by
  have hb : Below W.heap.size W W.drew := below_drewNu (Below.refl _ _) 1
  exact ⟨h.1.below hb, h.2.1.trans (Kept.of_below hb), below_drewNu h.2.2 1⟩

attribute [local go_sem] cell_same
set_option maxHeartbeats 2000000 in
theorem Do_open (B b : Nat) (cur x : Nat × Int × ByteArray) (were gone : List (Nat × Int × ByteArray)) (o grp : Int) (w : World) (h : Und w B b cur were gone o) (hB : B ≤ w.heap.size) (hl : were.length ≤ 1000) (hx : TextAt w (.pointer (some ⟨x.1, 0, none⟩)) (onePiece x.2.2))
    (hd : (decide (grp ≤ 0) || (grp != o)) = true) :
    Calls Try.prog 10 #[.pointer (some ⟨b, 0, none⟩), .pointer (some ⟨x.1, 0, none⟩), .int .i64 x.2.1, .int .i64 grp] w fun e w' => e = .returned (.bool true) ∧ Und w' B b x ((were ++ [cur]).drop (were.length + 1 - 100)) [] (max grp 0) ∧ Kept w w' ∧ Below B w w' := by
  obtain ⟨h0, h1, wv, gv, h2, h3, h4, h5⟩ := h
  have HU := hide h2
  have HR := hide h3
  obtain ⟨ut, u0, u1, u2, u3, u4, uf⟩ := h2
  have ul := World.block_lt_of_cell? _ _ u0
  have HA := hide (new_pair w cur.1 cur.2.1)
  have hwA : Below w.heap.size w (w.alloc (.cells #[.pointer (some ⟨cur.1, 0, none⟩), .int .i64 cur.2.1] 54)).drew := below_drewNu ((Below.refl _ _).alloc (Nat.le_refl _) _) 1
  have HRA := hide (HR.out.below hwA)
  have HBA := hide hwA
  have HBs := hide (Nat.le_trans hB hwA.size)
  have hb0 := hB
  clear hwA h3 hB
  go_enter Try.func10, Try.ntmps10
  go_wp2_with (go_at_call 24; refine (none_undo b _ _ _ _ o _ HU.out).mono ?_; rintro e w1 ⟨rfl, rfl⟩)
  all_goals go_region_law (refine step_row rfl (.tmp 29) (.tmp 34) rfl wv were B (by simp [Act.eval, Act.put]) HRA.out HBs.out (by omega) cur ⟨w.heap.size, 0, none⟩ (by simp [Act.eval, Act.put]) HA.out ?_; intro v' w' hr9 hg9 ho9; obtain ⟨g9, o9, c9, ev9⟩ := hr9.slice were.length (by simp); have HE9 := hide ev9; rw [ev9] at hr9 ho9 ⊢; clear ev9; have hc9 := hr9.cap; have hc8 : ¬ c9 = (max ((were.length : Int) + 1 - 100) 0).toNat := (by simp at hc9; omega); clear hc9; have HG9 := hide hg9; have HR9 := hide hr9; have HO9 := hide ho9; clear hr9 hg9 ho9; have HUw := hide (HU.out.grown HBA.out HG9.out HR.out); obtain ⟨ut', u0', u1', u2', u3', u4', uf'⟩ := HUw.out)
  all_goals go_wp2
  all_goals go_region
  all_goals go_wp2
  all_goals go_ret
  all_goals rw [show (max ((were.length : Int) + 1 - 100) 0).toNat = were.length + 1 - 100 by omega]
  all_goals refine ⟨rfl, ends_drew (Do_end (were := were) (by omega) h0 hb0 h1 HR.out hx HU.out.1 HBA.out HG9.out HR9.out
    ((((((HUw.out.set2 _).set2 _).set0 _).cursor _).set3 _).set4 _)
    ((((((grown_setCell _ _ _ _).trans (grown_setCell _ _ _ _)).trans (grown_setCell _ _ _ _)).trans (grown_setCell _ _ _ _)).trans (grown_setCell _ _ _ _)).trans (grown_setCell _ _ _ _)))⟩
end Go.Proofs.Ytgpcpfohfoeclaa
