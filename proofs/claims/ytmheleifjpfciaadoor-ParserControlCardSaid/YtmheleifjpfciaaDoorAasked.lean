/- Contract of limnerlaw07.asked: the chapter's examples. -/
import Derived.Test.YtmheleifjpfciaaDoorAis
import Derived.KernelRfl
namespace Go.Proofs.YtmheleifjpfciaaDoor
open Go.RowKit

theorem flat_cells {W : World} {g : Nat} {E : TypeId} {M : List (Value × Ac)} (h : Blk W g E (flatA M)) (hM : M ≠ []) (hn : ∀ x ∈ M, NumsV W x.1 x.2.ps) : ActsV W (.slice (some ⟨g, 0, none⟩) (M.map (·.2)).length (M.map (·.2)).length) (M.map (·.2)) :=
  ⟨some ⟨g, 0, none⟩, _, M, rfl, rfl, (fun e => absurd (List.map_eq_nil_iff.1 e) hM), Nat.le_refl _, fun x hx => ⟨hn x hx, (hn x hx).one⟩, fun j u hu => ⟨g, 0, rfl, by rw [Nat.zero_add]; exact h.cell hu⟩⟩
/-- What the boxes hold while asked runs. -/
def AkS (w : World) (W : World) : Prop := Blk W w.heap.size 34 [.int .i64 5, .int .i32 0, .slice none 0 0, .int .u8 0] ∧ Blk W (w.heap.size + 1) 34 [.int .i64 1, .int .i32 97, .slice none 0 0, .int .u8 0] ∧ UTabs W ∧ Below w.heap.size w W
theorem AkS.below {w W W' : World} (h : AkS w W) (hb : Below W.heap.size W W') : AkS w W' := ⟨h.1.below hb, h.2.1.below hb, h.2.2.1.below hb, h.2.2.2.trans (hb.mono h.2.2.2.size)⟩
theorem AkS.start {w : World} (hT : UTabs w) : AkS w ((w.alloc (.cells #[.int .i64 5, .int .i32 0, .slice none 0 0, .int .u8 0] 34)).alloc (.cells #[.int .i64 1, .int .i32 97, .slice none 0 0, .int .u8 0] 34)) := by
  have hb : Below w.heap.size w ((w.alloc (.cells #[.int .i64 5, .int .i32 0, .slice none 0 0, .int .u8 0] 34)).alloc (.cells #[.int .i64 1, .int .i32 97, .slice none 0 0, .int .u8 0] 34)) := ((Below.refl _ _).alloc (Nat.le_refl _) _).alloc (by simp) _
  refine ⟨(Blk.new w _ _).alloc _, ?_, hT.below hb, hb⟩
  have := Blk.new (w.alloc (.cells #[.int .i64 5, .int .i32 0, .slice none 0 0, .int .u8 0] 34)) 34 [.int .i64 1, .int .i32 97, .slice none 0 0, .int .u8 0]
  rw [World.size_alloc] at this
  exact this
theorem AkS.lt {w W : World} (h : AkS w W) : w.heap.size + 1 < W.heap.size := h.2.1.lt

theorem ask0 (w W : World) (n : Nat) (hn : W.heap.size = n) (h : AkS w W) : Calls Tryd.prog 14 #[.string ⟨#[97, 7, 195, 169]⟩, .slice (some ⟨n, 0, none⟩) 3 3] (W.alloc (.cells #[.int .i64 1, .int .i32 97, .slice none 0 0, .int .u8 0, .int .i64 2, .int .i32 7, .slice none 0 0, .int .u8 0, .int .i64 1, .int .i32 233, .slice none 0 0, .int .u8 0] 34)) fun e w' => e = .returned (.bool true) ∧ AkS w w' ∧ W.heap.size ≤ w'.heap.size := by
  subst hn
  have hb2 := (Below.refl W.heap.size W).alloc (Nat.le_refl _) (.cells #[.int .i64 1, .int .i32 97, .slice none 0 0, .int .u8 0, .int .i64 2, .int .i32 7, .slice none 0 0, .int .u8 0, .int .i64 1, .int .i32 233, .slice none 0 0, .int .u8 0] 34)
  have hblk := Blk.new W 34 (flatA [((.slice none 0 0), ⟨1, 97, [], 0⟩), ((.slice none 0 0), ⟨2, 7, [], 0⟩), ((.slice none 0 0), ⟨1, 233, [], 0⟩)])
  have hs := h.below hb2
  refine (is_any ⟨#[97, 7, 195, 169]⟩ (some ⟨W.heap.size, 0, none⟩) 3 [⟨1, 97, [], 0⟩, ⟨2, 7, [], 0⟩, ⟨1, 233, [], 0⟩] _ hs.2.2.1 (by decide) (flat_cells (M := [((.slice none 0 0), ⟨1, 97, [], 0⟩), ((.slice none 0 0), ⟨2, 7, [], 0⟩), ((.slice none 0 0), ⟨1, 233, [], 0⟩)]) hblk (by simp) (fun x hx => ?_)) (by decide +kernel) (by decide)).mono fun e w' hh => ⟨hh.1, hs.below hh.2, ?_⟩
  · simp only [List.mem_cons, List.not_mem_nil, or_false] at hx
    rcases hx with rfl | rfl | rfl <;> exact NumsV.nil _
  · have := hh.2.size; simp at this; omega

theorem ask1 (w W : World) (n : Nat) (hn : W.heap.size = n) (h : AkS w W) : Calls Tryd.prog 14 #[.string ⟨#[27, 91, 49, 59, 59, 50, 72]⟩, .slice (some ⟨n + 1, 0, none⟩) 1 1] ((W.alloc (.cells #[.int .i64 1, .int .i64 0, .int .i64 2] 3)).alloc (.cells #[.int .i64 3, .int .i32 0, .slice (some ⟨n, 0, none⟩) 3 3, .int .u8 72] 34)) fun e w' => e = .returned (.bool true) ∧ AkS w w' ∧ W.heap.size ≤ w'.heap.size := by
  subst hn
  have hb1 := (Below.refl W.heap.size W).alloc (Nat.le_refl _) (.cells #[.int .i64 1, .int .i64 0, .int .i64 2] 3)
  have hb2 := (Below.refl (W.alloc (.cells #[.int .i64 1, .int .i64 0, .int .i64 2] 3)).heap.size (W.alloc (.cells #[.int .i64 1, .int .i64 0, .int .i64 2] 3))).alloc (Nat.le_refl _) (.cells #[.int .i64 3, .int .i32 0, .slice (some ⟨W.heap.size, 0, none⟩) 3 3, .int .u8 72] 34)
  have hnum : NumsV (W.alloc (.cells #[.int .i64 1, .int .i64 0, .int .i64 2] 3)) (.slice (some ⟨W.heap.size, 0, none⟩) 3 3) [1, 0, 2] := by
    refine ⟨_, _, rfl, fun j x hx => ⟨W.heap.size, 0, rfl, TyA.new _ _ _, ?_⟩⟩
    have hB := Blk.new W 3 [.int .i64 1, .int .i64 0, .int .i64 2]
    rw [Nat.zero_add]
    refine hB.cell ?_
    match j, hx with
    | 0, hx => simp at hx; subst hx; rfl
    | 1, hx => simp at hx; subst hx; rfl
    | 2, hx => simp at hx; subst hx; rfl
    | j + 3, hx => simp at hx
  have hblk := Blk.new (W.alloc (.cells #[.int .i64 1, .int .i64 0, .int .i64 2] 3)) 34 (flatA [((.slice (some ⟨W.heap.size, 0, none⟩) 3 3), ⟨3, 0, [1, 0, 2], 72⟩)])
  rw [World.size_alloc] at hblk
  have hs := (h.below hb1).below hb2
  refine (is_any ⟨#[27, 91, 49, 59, 59, 50, 72]⟩ (some ⟨W.heap.size + 1, 0, none⟩) 1 [⟨3, 0, [1, 0, 2], 72⟩] _ hs.2.2.1 (by decide) (flat_cells (M := [((.slice (some ⟨W.heap.size, 0, none⟩) 3 3), ⟨3, 0, [1, 0, 2], 72⟩)]) hblk (by simp) (fun x hx => ?_)) (by decide +kernel) (by decide)).mono fun e w' hh => ⟨hh.1, hs.below hh.2, ?_⟩
  · simp only [List.mem_cons, List.not_mem_nil, or_false] at hx
    subst hx
    exact hnum.below hb2
  · have := hh.2.size; simp at this; omega

theorem ask2 (w W : World) (n : Nat) (hn : W.heap.size = n) (h : AkS w W) : Calls Tryd.prog 14 #[.string ⟨#[27, 91, 109]⟩, .slice (some ⟨n, 0, none⟩) 1 1] (W.alloc (.cells #[.int .i64 3, .int .i32 0, .slice none 0 0, .int .u8 109] 34)) fun e w' => e = .returned (.bool true) ∧ AkS w w' ∧ W.heap.size ≤ w'.heap.size := by
  subst hn
  have hb2 := (Below.refl W.heap.size W).alloc (Nat.le_refl _) (.cells #[.int .i64 3, .int .i32 0, .slice none 0 0, .int .u8 109] 34)
  have hblk := Blk.new W 34 (flatA [((.slice none 0 0), ⟨3, 0, [], 109⟩)])
  have hs := h.below hb2
  refine (is_any ⟨#[27, 91, 109]⟩ (some ⟨W.heap.size, 0, none⟩) 1 [⟨3, 0, [], 109⟩] _ hs.2.2.1 (by decide) (flat_cells (M := [((.slice none 0 0), ⟨3, 0, [], 109⟩)]) hblk (by simp) (fun x hx => ?_)) (by decide +kernel) (by decide)).mono fun e w' hh => ⟨hh.1, hs.below hh.2, ?_⟩
  · simp only [List.mem_cons, List.not_mem_nil, or_false] at hx
    rcases hx with rfl <;> exact NumsV.nil _
  · have := hh.2.size; simp at this; omega

theorem ask3 (w W : World) (n : Nat) (hn : W.heap.size = n) (h : AkS w W) : Calls Tryd.prog 14 #[.string ⟨#[27, 91, 63, 49, 104]⟩, .slice (some ⟨n, 0, none⟩) 1 1] (W.alloc (.cells #[.int .i64 5, .int .i32 0, .slice none 0 0, .int .u8 0] 34)) fun e w' => e = .returned (.bool true) ∧ AkS w w' ∧ W.heap.size ≤ w'.heap.size := by
  subst hn
  have hb2 := (Below.refl W.heap.size W).alloc (Nat.le_refl _) (.cells #[.int .i64 5, .int .i32 0, .slice none 0 0, .int .u8 0] 34)
  have hblk := Blk.new W 34 (flatA [((.slice none 0 0), ⟨5, 0, [], 0⟩)])
  have hs := h.below hb2
  refine (is_any ⟨#[27, 91, 63, 49, 104]⟩ (some ⟨W.heap.size, 0, none⟩) 1 [⟨5, 0, [], 0⟩] _ hs.2.2.1 (by decide) (flat_cells (M := [((.slice none 0 0), ⟨5, 0, [], 0⟩)]) hblk (by simp) (fun x hx => ?_)) (by decide +kernel) (by decide)).mono fun e w' hh => ⟨hh.1, hs.below hh.2, ?_⟩
  · simp only [List.mem_cons, List.not_mem_nil, or_false] at hx
    rcases hx with rfl <;> exact NumsV.nil _
  · have := hh.2.size; simp at this; omega

theorem ask4 (w W : World) (n : Nat) (hn : W.heap.size = n) (h : AkS w W) : Calls Tryd.prog 14 #[.string ⟨#[27, 99]⟩, .slice (some ⟨n, 0, none⟩) 1 1] (W.alloc (.cells #[.int .i64 4, .int .i32 0, .slice none 0 0, .int .u8 99] 34)) fun e w' => e = .returned (.bool true) ∧ AkS w w' ∧ W.heap.size ≤ w'.heap.size := by
  subst hn
  have hb2 := (Below.refl W.heap.size W).alloc (Nat.le_refl _) (.cells #[.int .i64 4, .int .i32 0, .slice none 0 0, .int .u8 99] 34)
  have hblk := Blk.new W 34 (flatA [((.slice none 0 0), ⟨4, 0, [], 99⟩)])
  have hs := h.below hb2
  refine (is_any ⟨#[27, 99]⟩ (some ⟨W.heap.size, 0, none⟩) 1 [⟨4, 0, [], 99⟩] _ hs.2.2.1 (by decide) (flat_cells (M := [((.slice none 0 0), ⟨4, 0, [], 99⟩)]) hblk (by simp) (fun x hx => ?_)) (by decide +kernel) (by decide)).mono fun e w' hh => ⟨hh.1, hs.below hh.2, ?_⟩
  · simp only [List.mem_cons, List.not_mem_nil, or_false] at hx
    rcases hx with rfl <;> exact NumsV.nil _
  · have := hh.2.size; simp at this; omega

theorem ask5 (w W : World) (n : Nat) (hn : W.heap.size = n) (h : AkS w W) : Calls Tryd.prog 14 #[.string ⟨#[226, 130, 97]⟩, .slice (some ⟨n, 0, none⟩) 2 2] (W.alloc (.cells #[.int .i64 5, .int .i32 0, .slice none 0 0, .int .u8 0, .int .i64 1, .int .i32 97, .slice none 0 0, .int .u8 0] 34)) fun e w' => e = .returned (.bool true) ∧ AkS w w' ∧ W.heap.size ≤ w'.heap.size := by
  subst hn
  have hb2 := (Below.refl W.heap.size W).alloc (Nat.le_refl _) (.cells #[.int .i64 5, .int .i32 0, .slice none 0 0, .int .u8 0, .int .i64 1, .int .i32 97, .slice none 0 0, .int .u8 0] 34)
  have hblk := Blk.new W 34 (flatA [((.slice none 0 0), ⟨5, 0, [], 0⟩), ((.slice none 0 0), ⟨1, 97, [], 0⟩)])
  have hs := h.below hb2
  refine (is_any ⟨#[226, 130, 97]⟩ (some ⟨W.heap.size, 0, none⟩) 2 [⟨5, 0, [], 0⟩, ⟨1, 97, [], 0⟩] _ hs.2.2.1 (by decide) (flat_cells (M := [((.slice none 0 0), ⟨5, 0, [], 0⟩), ((.slice none 0 0), ⟨1, 97, [], 0⟩)]) hblk (by simp) (fun x hx => ?_)) (by decide +kernel) (by decide)).mono fun e w' hh => ⟨hh.1, hs.below hh.2, ?_⟩
  · simp only [List.mem_cons, List.not_mem_nil, or_false] at hx
    rcases hx with rfl | rfl <;> exact NumsV.nil _
  · have := hh.2.size; simp at this; omega

theorem ask6 (w W : World) (n : Nat) (hn : W.heap.size = n) (h : AkS w W) : Calls Tryd.prog 14 #[.string ⟨#[255]⟩, .slice (some ⟨n, 0, none⟩) 1 1] (W.alloc (.cells #[.int .i64 5, .int .i32 0, .slice none 0 0, .int .u8 0] 34)) fun e w' => e = .returned (.bool true) ∧ AkS w w' ∧ W.heap.size ≤ w'.heap.size := by
  subst hn
  have hb2 := (Below.refl W.heap.size W).alloc (Nat.le_refl _) (.cells #[.int .i64 5, .int .i32 0, .slice none 0 0, .int .u8 0] 34)
  have hblk := Blk.new W 34 (flatA [((.slice none 0 0), ⟨5, 0, [], 0⟩)])
  have hs := h.below hb2
  refine (is_any ⟨#[255]⟩ (some ⟨W.heap.size, 0, none⟩) 1 [⟨5, 0, [], 0⟩] _ hs.2.2.1 (by decide) (flat_cells (M := [((.slice none 0 0), ⟨5, 0, [], 0⟩)]) hblk (by simp) (fun x hx => ?_)) (by decide +kernel) (by decide)).mono fun e w' hh => ⟨hh.1, hs.below hh.2, ?_⟩
  · simp only [List.mem_cons, List.not_mem_nil, or_false] at hx
    rcases hx with rfl <;> exact NumsV.nil _
  · have := hh.2.size; simp at this; omega

theorem ask7 (w W : World) (n : Nat) (hn : W.heap.size = n) (h : AkS w W) : Calls Tryd.prog 14 #[.string ⟨#[27, 27]⟩, .slice (some ⟨n, 0, none⟩) 1 1] (W.alloc (.cells #[.int .i64 5, .int .i32 0, .slice none 0 0, .int .u8 0] 34)) fun e w' => e = .returned (.bool true) ∧ AkS w w' ∧ W.heap.size ≤ w'.heap.size := by
  subst hn
  have hb2 := (Below.refl W.heap.size W).alloc (Nat.le_refl _) (.cells #[.int .i64 5, .int .i32 0, .slice none 0 0, .int .u8 0] 34)
  have hblk := Blk.new W 34 (flatA [((.slice none 0 0), ⟨5, 0, [], 0⟩)])
  have hs := h.below hb2
  refine (is_any ⟨#[27, 27]⟩ (some ⟨W.heap.size, 0, none⟩) 1 [⟨5, 0, [], 0⟩] _ hs.2.2.1 (by decide) (flat_cells (M := [((.slice none 0 0), ⟨5, 0, [], 0⟩)]) hblk (by simp) (fun x hx => ?_)) (by decide +kernel) (by decide)).mono fun e w' hh => ⟨hh.1, hs.below hh.2, ?_⟩
  · simp only [List.mem_cons, List.not_mem_nil, or_false] at hx
    rcases hx with rfl <;> exact NumsV.nil _
  · have := hh.2.size; simp at this; omega

set_option maxRecDepth 100000 in
set_option maxHeartbeats 4000000 in
theorem asked_any (w : World) (hT : UTabs w) : Calls Tryd.prog 8 #[] w fun e w' => e = .returned (.bool true) ∧ Below w.heap.size w w' := by
  have HS := hide (AkS.start hT)
  clear hT
  go_enter Tryd.func8, Tryd.ntmps8

  go_wp2_with fail
  refine (ask0 w _ _ (by first | rfl | simp) HS.out).mono ?_
  rintro e w1 ⟨rfl, hs, hz⟩
  replace HS := hide hs
  have a0 := hs.1.cell (i := 0) rfl; have a1 := hs.1.cell (i := 1) rfl; have a2 := hs.1.cell (i := 2) rfl; have a3 := hs.1.cell (i := 3) rfl
  have b0 := hs.2.1.cell (i := 0) rfl; have b1 := hs.2.1.cell (i := 1) rfl; have b2 := hs.2.1.cell (i := 2) rfl; have b3 := hs.2.1.cell (i := 3) rfl
  have hlt := hs.lt
  clear hs hz
  go_wp2_with fail
  refine (ask1 w _ _ (by first | rfl | simp) HS.out).mono ?_
  rintro e w2 ⟨rfl, hs, hz⟩
  replace HS := hide hs
  have a0 := hs.1.cell (i := 0) rfl; have a1 := hs.1.cell (i := 1) rfl; have a2 := hs.1.cell (i := 2) rfl; have a3 := hs.1.cell (i := 3) rfl
  have b0 := hs.2.1.cell (i := 0) rfl; have b1 := hs.2.1.cell (i := 1) rfl; have b2 := hs.2.1.cell (i := 2) rfl; have b3 := hs.2.1.cell (i := 3) rfl
  have hlt := hs.lt
  clear hs hz
  go_wp2_with fail
  refine (ask2 w _ _ (by first | rfl | simp) HS.out).mono ?_
  rintro e w3 ⟨rfl, hs, hz⟩
  replace HS := hide hs
  have a0 := hs.1.cell (i := 0) rfl; have a1 := hs.1.cell (i := 1) rfl; have a2 := hs.1.cell (i := 2) rfl; have a3 := hs.1.cell (i := 3) rfl
  have b0 := hs.2.1.cell (i := 0) rfl; have b1 := hs.2.1.cell (i := 1) rfl; have b2 := hs.2.1.cell (i := 2) rfl; have b3 := hs.2.1.cell (i := 3) rfl
  have hlt := hs.lt
  clear hs hz
  go_wp2_with fail
  refine (ask3 w _ _ (by first | rfl | simp) HS.out).mono ?_
  rintro e w4 ⟨rfl, hs, hz⟩
  replace HS := hide hs
  have a0 := hs.1.cell (i := 0) rfl; have a1 := hs.1.cell (i := 1) rfl; have a2 := hs.1.cell (i := 2) rfl; have a3 := hs.1.cell (i := 3) rfl
  have b0 := hs.2.1.cell (i := 0) rfl; have b1 := hs.2.1.cell (i := 1) rfl; have b2 := hs.2.1.cell (i := 2) rfl; have b3 := hs.2.1.cell (i := 3) rfl
  have hlt := hs.lt
  clear hs hz
  go_wp2_with fail
  refine (ask4 w _ _ (by first | rfl | simp) HS.out).mono ?_
  rintro e w5 ⟨rfl, hs, hz⟩
  replace HS := hide hs
  have a0 := hs.1.cell (i := 0) rfl; have a1 := hs.1.cell (i := 1) rfl; have a2 := hs.1.cell (i := 2) rfl; have a3 := hs.1.cell (i := 3) rfl
  have b0 := hs.2.1.cell (i := 0) rfl; have b1 := hs.2.1.cell (i := 1) rfl; have b2 := hs.2.1.cell (i := 2) rfl; have b3 := hs.2.1.cell (i := 3) rfl
  have hlt := hs.lt
  clear hs hz
  go_wp2_with fail
  refine (ask5 w _ _ (by first | rfl | simp) HS.out).mono ?_
  rintro e w6 ⟨rfl, hs, hz⟩
  replace HS := hide hs
  have a0 := hs.1.cell (i := 0) rfl; have a1 := hs.1.cell (i := 1) rfl; have a2 := hs.1.cell (i := 2) rfl; have a3 := hs.1.cell (i := 3) rfl
  have b0 := hs.2.1.cell (i := 0) rfl; have b1 := hs.2.1.cell (i := 1) rfl; have b2 := hs.2.1.cell (i := 2) rfl; have b3 := hs.2.1.cell (i := 3) rfl
  have hlt := hs.lt
  clear hs hz
  go_wp2_with fail
  refine (ask6 w _ _ (by first | rfl | simp) HS.out).mono ?_
  rintro e w7 ⟨rfl, hs, hz⟩
  replace HS := hide hs
  have a0 := hs.1.cell (i := 0) rfl; have a1 := hs.1.cell (i := 1) rfl; have a2 := hs.1.cell (i := 2) rfl; have a3 := hs.1.cell (i := 3) rfl
  have b0 := hs.2.1.cell (i := 0) rfl; have b1 := hs.2.1.cell (i := 1) rfl; have b2 := hs.2.1.cell (i := 2) rfl; have b3 := hs.2.1.cell (i := 3) rfl
  have hlt := hs.lt
  clear hs hz
  go_wp2_with fail
  refine (ask7 w _ _ (by first | rfl | simp) HS.out).mono ?_
  rintro e w8 ⟨rfl, hs, hz⟩
  replace HS := hide hs
  have a0 := hs.1.cell (i := 0) rfl; have a1 := hs.1.cell (i := 1) rfl; have a2 := hs.1.cell (i := 2) rfl; have a3 := hs.1.cell (i := 3) rfl
  have b0 := hs.2.1.cell (i := 0) rfl; have b1 := hs.2.1.cell (i := 1) rfl; have b2 := hs.2.1.cell (i := 2) rfl; have b3 := hs.2.1.cell (i := 3) rfl
  have hlt := hs.lt
  clear hs hz
  go_wp2
  go_ret
  exact ⟨rfl, HS.out.2.2.2⟩
end Go.Proofs.YtmheleifjpfciaaDoor
