/- Contracts of (*Undo).Undo, (*Undo).Redo, (*Undo).Do within a group, (*Undo).Move, (*Undo).Now and limnerlaw05.steps, over the Undo as a whole. -/
import Derived.Test.YtgpcpfohfoeclaaUback
import Derived.Deep.RegionHeld3
namespace Go.Proofs.Ytgpcpfohfoeclaa
open Go.RowKit

theorem row_zero {W : World} {B : Nat} {v : Value} (h : Row W B v []) : ∃ A k, v = .slice A 0 k := by
  rcases h with ⟨rfl, _⟩ | ⟨g, off, cap, rfl, r⟩
  · exact ⟨none, 0, rfl⟩
  · exact ⟨_, _, rfl⟩
theorem row_len {W : World} {B : Nat} {v : Value} {L : List (Nat × Int × ByteArray)} (h : Row W B v L) : ∃ A k, v = .slice A L.length k := by
  rcases h with ⟨rfl, rfl⟩ | ⟨g, off, cap, rfl, r⟩
  · exact ⟨none, 0, rfl⟩
  · exact ⟨_, _, rfl⟩

set_option maxHeartbeats 400000 in
theorem Undo_zero (B b : Nat) (cur : Nat × Int × ByteArray) (tos : List (Nat × Int × ByteArray)) (o : Int) (w : World) (h : Und w B b cur [] tos o) :
    Calls Try.prog 12 #[.pointer (some ⟨b, 0, none⟩)] w fun e w' => e = .returned (.tuple #[.pointer none, .int .i64 0, .bool false]) ∧ Und w' B b cur [] tos o ∧ Below w.heap.size w w' := by
  have H := hide h
  obtain ⟨h0, h1, wv, gv, h2, h3, h4, h5⟩ := h
  obtain ⟨A, k, rfl⟩ := row_zero h3
  have HU := hide h2
  have HW := hide (below_drewNu (Below.refl w.heap.size w) 1)
  have HU2 := hide (h2.below HW.out)
  have HD := hide (H.out.below HW.out)
  have ul := World.block_lt_of_cell? _ _ h2.2.1
  clear h1 h3 h4 h5 h2
  go_enter Try.func12, Try.ntmps12
  go_wp2_with (go_at_call 24; refine (none_undo b _ _ _ _ o _ HU.out).mono ?_; rintro e w1 ⟨rfl, rfl⟩)
  go_region_held3 (fun w' => w' = w.drew)
    (exact rfl)
    (first | (go_at_call 25; refine (stepU_none b _ _ A k _ o _ HU2.out).mono ?_; rintro e w1 ⟨rfl, rfl⟩))
  all_goals go_wp2
  all_goals go_ret3
  all_goals exact ⟨rfl, HD.out, HW.out⟩
set_option maxHeartbeats 400000 in
theorem Undo_any (B b : Nat) (cur y : Nat × Int × ByteArray) (ws tos : List (Nat × Int × ByteArray)) (o : Int) (w : World) (h : Und w B b cur (ws ++ [y]) tos o) (hB : B ≤ w.heap.size) (hl : ws.length ≤ 1000) (hl2 : tos.length ≤ 1000) :
    Calls Try.prog 12 #[.pointer (some ⟨b, 0, none⟩)] w fun e w' => e = .returned (.tuple #[.pointer (some ⟨y.1, 0, none⟩), .int .i64 y.2.1, .bool true]) ∧ Und w' B b y ws (tos ++ [cur]) 0 ∧ Kept w w' ∧ Below B w w' := by
  have H := hide h
  have HB := hide hB
  obtain ⟨h0, h1, wv, gv, h2, h3, h4, h5⟩ := h
  have HU := hide h2
  have HW := hide (below_drewNu (Below.refl w.heap.size w) 1)
  have HU2 := hide (h2.below HW.out)
  have HD := hide (H.out.below HW.out)
  have ul := World.block_lt_of_cell? _ _ h2.2.1
  clear h1 h3 h4 h5 h2 hB
  go_enter Try.func12, Try.ntmps12
  go_wp2_with (go_at_call 24; refine (none_undo b _ _ _ _ o _ HU.out).mono ?_; rintro e w1 ⟨rfl, rfl⟩)
  go_region_held3 (fun w' => w' = w.drew ∨ (Und w' B b y ws (tos ++ [cur]) 0 ∧ Kept w w' ∧ Below B w w'))
    (first | exact .inl rfl | exact .inr ⟨HUU.out, HKK.out, HBB.out⟩)
    (first | (go_at_call 25; refine (stepU_any B b cur y ws tos o _ HD.out HB.out hl hl2).mono ?_; rintro e w1 ⟨rfl, hu, hk, hb⟩; have HUU := hide hu; have HKK := hide ((Kept.of_below HW.out).trans hk); have HBB := hide ((HW.out.mono HB.out).trans hb); clear hu hk hb))
  all_goals go_wp2
  all_goals go_ret3
  all_goals exact ⟨rfl, HUU.out, HKK.out, HBB.out⟩

set_option maxHeartbeats 400000 in
theorem Redo_zero (B b : Nat) (cur : Nat × Int × ByteArray) (tos : List (Nat × Int × ByteArray)) (o : Int) (w : World) (h : Und w B b cur tos [] o) :
    Calls Try.prog 15 #[.pointer (some ⟨b, 0, none⟩)] w fun e w' => e = .returned (.tuple #[.pointer none, .int .i64 0, .bool false]) ∧ Und w' B b cur tos [] o ∧ Below w.heap.size w w' := by
  have H := hide h
  obtain ⟨h0, h1, wv, gv, h2, h3, h4, h5⟩ := h
  obtain ⟨A, k, rfl⟩ := row_zero h4
  have HU := hide h2
  have HW := hide (below_drewNu (Below.refl w.heap.size w) 1)
  have HU2 := hide (h2.below HW.out)
  have HD := hide (H.out.below HW.out)
  have ul := World.block_lt_of_cell? _ _ h2.2.1
  clear h1 h3 h4 h5 h2
  go_enter Try.func15, Try.ntmps15
  go_wp2_with (go_at_call 24; refine (none_undo b _ _ _ _ o _ HU.out).mono ?_; rintro e w1 ⟨rfl, rfl⟩)
  go_region_held3 (fun w' => w' = w.drew)
    (exact rfl)
    (first | (go_at_call 25; refine (stepR_none b _ _ A k _ o _ HU2.out).mono ?_; rintro e w1 ⟨rfl, rfl⟩))
  all_goals go_wp2
  all_goals go_ret3
  all_goals exact ⟨rfl, HD.out, HW.out⟩
set_option maxHeartbeats 400000 in
theorem Redo_any (B b : Nat) (cur y : Nat × Int × ByteArray) (ws tos : List (Nat × Int × ByteArray)) (o : Int) (w : World) (h : Und w B b cur tos (ws ++ [y]) o) (hB : B ≤ w.heap.size) (hl : ws.length ≤ 1000) (hl2 : tos.length ≤ 1000) :
    Calls Try.prog 15 #[.pointer (some ⟨b, 0, none⟩)] w fun e w' => e = .returned (.tuple #[.pointer (some ⟨y.1, 0, none⟩), .int .i64 y.2.1, .bool true]) ∧ Und w' B b y (tos ++ [cur]) ws 0 ∧ Kept w w' ∧ Below B w w' := by
  have H := hide h
  have HB := hide hB
  obtain ⟨h0, h1, wv, gv, h2, h3, h4, h5⟩ := h
  have HU := hide h2
  have HW := hide (below_drewNu (Below.refl w.heap.size w) 1)
  have HU2 := hide (h2.below HW.out)
  have HD := hide (H.out.below HW.out)
  have ul := World.block_lt_of_cell? _ _ h2.2.1
  clear h1 h3 h4 h5 h2 hB
  go_enter Try.func15, Try.ntmps15
  go_wp2_with (go_at_call 24; refine (none_undo b _ _ _ _ o _ HU.out).mono ?_; rintro e w1 ⟨rfl, rfl⟩)
  go_region_held3 (fun w' => w' = w.drew ∨ (Und w' B b y (tos ++ [cur]) ws 0 ∧ Kept w w' ∧ Below B w w'))
    (first | exact .inl rfl | exact .inr ⟨HUU.out, HKK.out, HBB.out⟩)
    (first | (go_at_call 25; refine (stepR_any B b cur y ws tos o _ HD.out HB.out hl hl2).mono ?_; rintro e w1 ⟨rfl, hu, hk, hb⟩; have HUU := hide hu; have HKK := hide ((Kept.of_below HW.out).trans hk); have HBB := hide ((HW.out.mono HB.out).trans hb); clear hu hk hb))
  all_goals go_wp2
  all_goals go_ret3
  all_goals exact ⟨rfl, HUU.out, HKK.out, HBB.out⟩

theorem Do_same_end {B b : Nat} {cur x : Nat × Int × ByteArray} {were gone : List (Nat × Int × ByteArray)} {o' : Int} {w W : World} {wv : Value} (h0 : B ≤ b) (hB : B ≤ w.heap.size) (h1 : Texts w (cur :: (were ++ gone))) (hr : Row w B wv were)
    (hx : TextAt w (.pointer (some ⟨x.1, 0, none⟩)) (onePiece x.2.2)) (hut : Typed w b 57) (hU : UAt W b (.pointer (some ⟨x.1, 0, none⟩)) x.2.1 wv (.slice none 0 0) o') (hs : w.grownBy W (some b)) :
    Und W B b x were [] o' ∧ Kept w W ∧ Below B w W := by
  have hk1 : Kept w W := (Kept.refl w).grown hs fun k e => by injection e with e; subst e; exact .inr hut
  have hb1 : Below B w W := below_grown (Below.refl _ _) hs hB fun k e => by injection e with e; omega
  refine ⟨⟨h0, ?_, _, _, hU, ?_, Row.nil _ _, fun _ _ e => by cases e⟩, hk1, hb1⟩
  · intro y hy
    rcases List.mem_cons.1 hy with rfl | hy
    · exact hx.kept hk1
    · rw [List.append_nil] at hy
      exact (h1 y (List.mem_cons_of_mem _ (List.mem_append_left _ hy))).kept hk1
  · refine hr.same hs.size fun j e => ?_
    have hT := hr.ownT j e
    exact hs.block j (by obtain ⟨c, fz, hh⟩ := hT; exact (Array.getElem?_eq_some_iff.1 hh).1) (fun e => by injection e with e; subst e; exact hut.ne hT (by decide) rfl)

set_option maxHeartbeats 1000000 in
theorem Do_same (B b : Nat) (cur x : Nat × Int × ByteArray) (were gone : List (Nat × Int × ByteArray)) (grp : Int) (w : World) (h : Und w B b cur were gone grp) (hB : B ≤ w.heap.size) (hx : TextAt w (.pointer (some ⟨x.1, 0, none⟩)) (onePiece x.2.2)) (hd : 0 < grp) :
    Calls Try.prog 10 #[.pointer (some ⟨b, 0, none⟩), .pointer (some ⟨x.1, 0, none⟩), .int .i64 x.2.1, .int .i64 grp] w fun e w' => e = .returned (.bool true) ∧ Und w' B b x were [] grp ∧ Kept w w' ∧ Below B w w' := by
  obtain ⟨h0, h1, wv, gv, h2, h3, h4, h5⟩ := h
  have HU := hide h2
  have HR := hide h3
  have H1 := hide h1
  have HB := hide hB
  have HX := hide hx
  obtain ⟨ut, u0, u1, u2, u3, u4, uf⟩ := h2
  have ul := World.block_lt_of_cell? _ _ u0
  have hm : max grp 0 = grp := by omega
  clear h3 h4 h5 h1 hB hx
  go_enter Try.func10, Try.ntmps10
  go_wp2_with (go_at_call 24; refine (none_undo b _ _ _ _ grp _ HU.out).mono ?_; rintro e w1 ⟨rfl, rfl⟩)
  go_ret
  refine ⟨rfl, ?_⟩
  have hU := (((HU.out.set0 (.pointer (some ⟨x.1, 0, none⟩))).cursor x.2.1).set3 (.slice none 0 0)).set4 grp
  have hs := (((grown_setCell w b 0 (.pointer (some ⟨x.1, 0, none⟩))).trans (grown_setCell _ b 1 (.int .i64 x.2.1))).trans (grown_setCell _ b 3 (.slice none 0 0))).trans (grown_setCell _ b 4 (.int .i64 grp))
  exact Do_same_end h0 HB.out H1.out HR.out HX.out HU.out.1 hU hs

theorem steps_und (B b : Nat) (cur : Nat × Int × ByteArray) (were gone : List (Nat × Int × ByteArray)) (o : Int) (w : World) (h : Und w B b cur were gone o) :
    Calls Try.prog 14 #[.pointer (some ⟨b, 0, none⟩), .int .i64 were.length, .int .i64 gone.length] w fun e w' => e = .returned (.bool true) ∧ Below w.heap.size w w' := by
  obtain ⟨h0, h1, wv, gv, h2, h3, h4, h5⟩ := h
  obtain ⟨A, k, rfl⟩ := row_len h3
  obtain ⟨A', k', rfl⟩ := row_len h4
  exact steps_true b _ _ A A' _ _ k k' o w h2
theorem now_und (B b : Nat) (cur : Nat × Int × ByteArray) (were gone : List (Nat × Int × ByteArray)) (o : Int) (w : World) (h : Und w B b cur were gone o) :
    Calls Try.prog 16 #[.pointer (some ⟨b, 0, none⟩)] w fun e w' => e = .returned (.tuple #[.pointer (some ⟨cur.1, 0, none⟩), .int .i64 cur.2.1]) ∧ Below w.heap.size w w' := by
  obtain ⟨h0, h1, wv, gv, h2, h3, h4, h5⟩ := h
  exact now_any b _ _ wv gv o w h2
/-- undo.New of a text. -/
theorem new_und (B : Nat) (x : Nat × Int × ByteArray) (w : World) (hB : B ≤ w.heap.size) (hx : TextAt w (.pointer (some ⟨x.1, 0, none⟩)) (onePiece x.2.2)) :
    Calls Try.prog 8 #[.pointer (some ⟨x.1, 0, none⟩), .int .i64 x.2.1] w fun e w' => e = .returned (.pointer (some ⟨w.heap.size, 0, none⟩)) ∧ Und w' B w.heap.size x [] [] 0 ∧ Below w.heap.size w w' := by
  refine (unew_any x.1 x.2.1 w).mono ?_
  rintro e w' ⟨rfl, hu, hb⟩
  refine ⟨rfl, ⟨hB, ?_, _, _, hu, Row.nil _ _, Row.nil _ _, fun _ e _ => by cases e⟩, hb⟩
  intro y hy
  rw [List.append_nil, List.mem_singleton] at hy
  subst hy
  exact hx.below hb
end Go.Proofs.Ytgpcpfohfoeclaa
