/- Contracts of limnerlaw09.is and pressed. -/
import Derived.Test.YtiilgeinkocanaaDoorKtold
namespace Go.Proofs.YtiilgeinkocanaaDoor
open Go.RowKit

set_option maxRecDepth 100000 in
theorem is_any (s : ByteArray) (tick : Bool) (v : Value) (M : List Ky) (w : World) (hU : UTabs w) (hT : WTabs w) (hs : s.size ≤ 1000) (hv : KeysV w v M) (hM : M.length ≤ 1000) (he : toldK s tick = M) (hl : (toldK s tick).length ≤ 1000) :
    Calls Tryd.prog 21 #[.string s, .bool tick, v] w fun e w' => e = .returned (.bool true) ∧ Below w.heap.size w w' := by
  have HC := hide (told_any s tick w hU hT (by omega))
  have HV := hide hv
  have HL := hide hl
  have HE := hide he
  have HM := hide hM
  clear hU hT hv hl he hM
  go_enter Tryd.func21, Tryd.ntmps21
  go_wp2_with fail
  refine HC.out.mono ?_
  rintro e w1 ⟨u, rfl, ho, hn, hb1⟩
  have HK := hide (ho.keys hn)
  have HV1 := hide (HV.out.below hb1)
  have HB1 := hide hb1
  clear ho hn hb1
  go_wp2_with fail
  refine (same_any u v _ M _ HK.out HV1.out (by have := HL.out; omega) (by have := HM.out; omega)).mono ?_
  rintro e w2 ⟨rfl, hb2⟩
  rw [decide_eq_true HE.out]
  go_wp2_with fail
  go_ret
  exact ⟨rfl, HB1.out.trans (hb2.mono HB1.out.size)⟩
/-- What the boxes hold while pressed runs. -/
structure PkS (w W : World) : Prop where
  e : Blk W w.heap.size 26 (kyCells ⟨5, 0, ⟨#[]⟩⟩)
  a : Blk W (w.heap.size + 1) 26 (kyCells ⟨1, 97, ⟨#[]⟩⟩)
  b : Blk W (w.heap.size + 2) 26 (kyCells ⟨0, 0, ⟨#[195]⟩⟩)
  u : UTabs W
  t : WTabs W
  low : Below w.heap.size w W
theorem PkS.below {w W W' : World} (h : PkS w W) (hb : Below W.heap.size W W') : PkS w W' := ⟨h.e.below hb, h.a.below hb, h.b.below hb, h.u.below hb, h.t.below hb, h.low.trans (hb.mono h.low.size)⟩
theorem PkS.start {w : World} (hU : UTabs w) (hT : WTabs w) : PkS w (((w.alloc (.cells #[.int .i64 5, .int .i32 0, .string ⟨#[]⟩] 26)).alloc (.cells #[.int .i64 1, .int .i32 97, .string ⟨#[]⟩] 26)).alloc (.cells #[.int .i64 0, .int .i32 0, .string ⟨#[195]⟩] 26)) := by
  have hb : Below w.heap.size w (((w.alloc (.cells #[.int .i64 5, .int .i32 0, .string ⟨#[]⟩] 26)).alloc (.cells #[.int .i64 1, .int .i32 97, .string ⟨#[]⟩] 26)).alloc (.cells #[.int .i64 0, .int .i32 0, .string ⟨#[195]⟩] 26)) := (((Below.refl _ _).alloc (Nat.le_refl _) _).alloc (by simp) _).alloc (by simp; omega) _
  refine ⟨((Blk.new w _ (kyCells ⟨5, 0, ⟨#[]⟩⟩)).alloc _).alloc _, ?_, ?_, hU.below hb, hT.below hb, hb⟩
  · have := (Blk.new (w.alloc (.cells #[.int .i64 5, .int .i32 0, .string ⟨#[]⟩] 26)) 26 (kyCells ⟨1, 97, ⟨#[]⟩⟩)).alloc (.cells #[.int .i64 0, .int .i32 0, .string ⟨#[195]⟩] 26)
    rw [World.size_alloc] at this
    exact this
  · have := Blk.new ((w.alloc (.cells #[.int .i64 5, .int .i32 0, .string ⟨#[]⟩] 26)).alloc (.cells #[.int .i64 1, .int .i32 97, .string ⟨#[]⟩] 26)) 26 (kyCells ⟨0, 0, ⟨#[195]⟩⟩)
    rw [World.size_alloc, World.size_alloc] at this
    exact this
/-- A literal of keys. -/
theorem lit_keys (W : World) (M : List Ky) (h : M ≠ []) : KeysV (W.alloc (.cells (flatK M).toArray 26)) (.slice (some ⟨W.heap.size, 0, none⟩) M.length M.length) M := by
  refine ⟨_, _, rfl, Nat.le_refl _, fun e => absurd e h, fun j x hj => ⟨W.heap.size, 0, rfl, by simp, fun i u hu => ?_⟩⟩
  have hi : i < 3 := by have := (List.getElem?_eq_some_iff.1 hu).1; simpa [kyCells] using this
  have hb := Blk.new W 26 (flatK M)
  have := hb.cell (i := j * 3 + i) (by rw [flatK_at M j x hj i hi]; exact hu)
  rw [Nat.zero_add]
  exact this
theorem told_len (s : ByteArray) (tick : Bool) : (toldK s tick).length ≤ 2 * s.size + 1 := by
  have h1 := run_keys_len startK s.data.toList
  rw [Array.length_toList] at h1
  unfold toldK
  rw [List.length_append]
  have h2 := tick_keys (runK startK s.data.toList).1
  have e : s.data.size = s.size := rfl
  split
  · omega
  · simp; omega

theorem press0 (w W : World) (n : Nat) (hn : W.heap.size = n) (h : PkS w W) : Calls Tryd.prog 21 #[.string ⟨#[97, 195, 169, 13, 1, 0]⟩, .bool false, .slice (some ⟨n, 0, none⟩) 5 5] (W.alloc (.cells #[.int .i64 1, .int .i32 97, .string ⟨#[]⟩, .int .i64 1, .int .i32 233, .string ⟨#[]⟩, .int .i64 2, .int .i32 0, .string ⟨#[]⟩, .int .i64 6, .int .i32 97, .string ⟨#[]⟩, .int .i64 6, .int .i32 64, .string ⟨#[]⟩] 26)) fun e w' => e = .returned (.bool true) ∧ PkS w w' := by
  subst hn
  have hb2 := (Below.refl W.heap.size W).alloc (Nat.le_refl _) (.cells #[.int .i64 1, .int .i32 97, .string ⟨#[]⟩, .int .i64 1, .int .i32 233, .string ⟨#[]⟩, .int .i64 2, .int .i32 0, .string ⟨#[]⟩, .int .i64 6, .int .i32 97, .string ⟨#[]⟩, .int .i64 6, .int .i32 64, .string ⟨#[]⟩] 26)
  have hs := h.below hb2
  exact (is_any ⟨#[97, 195, 169, 13, 1, 0]⟩ false _ [⟨1, 97, ⟨#[]⟩⟩, ⟨1, 233, ⟨#[]⟩⟩, ⟨2, 0, ⟨#[]⟩⟩, ⟨6, 97, ⟨#[]⟩⟩, ⟨6, 64, ⟨#[]⟩⟩] _ hs.u hs.t (by decide) (lit_keys W [⟨1, 97, ⟨#[]⟩⟩, ⟨1, 233, ⟨#[]⟩⟩, ⟨2, 0, ⟨#[]⟩⟩, ⟨6, 97, ⟨#[]⟩⟩, ⟨6, 64, ⟨#[]⟩⟩] (by simp)) (by decide) (by decide +kernel) (by have := told_len ⟨#[97, 195, 169, 13, 1, 0]⟩ false; have e : (⟨#[97, 195, 169, 13, 1, 0]⟩ : ByteArray).size = 6 := rfl; omega)).mono fun e w' hh => ⟨hh.1, hs.below hh.2⟩

theorem press1 (w W : World) (n : Nat) (hn : W.heap.size = n) (h : PkS w W) : Calls Tryd.prog 21 #[.string ⟨#[27]⟩, .bool true, .slice (some ⟨n, 0, none⟩) 1 1] (W.alloc (.cells #[.int .i64 5, .int .i32 0, .string ⟨#[]⟩] 26)) fun e w' => e = .returned (.bool true) ∧ PkS w w' := by
  subst hn
  have hb2 := (Below.refl W.heap.size W).alloc (Nat.le_refl _) (.cells #[.int .i64 5, .int .i32 0, .string ⟨#[]⟩] 26)
  have hs := h.below hb2
  exact (is_any ⟨#[27]⟩ true _ [⟨5, 0, ⟨#[]⟩⟩] _ hs.u hs.t (by decide) (lit_keys W [⟨5, 0, ⟨#[]⟩⟩] (by simp)) (by decide) (by decide +kernel) (by have := told_len ⟨#[27]⟩ true; have e : (⟨#[27]⟩ : ByteArray).size = 1 := rfl; omega)).mono fun e w' hh => ⟨hh.1, hs.below hh.2⟩

theorem press2 (w W : World) (n : Nat) (hn : W.heap.size = n) (h : PkS w W) : Calls Tryd.prog 21 #[.string ⟨#[27, 120]⟩, .bool false, .slice (some ⟨n, 0, none⟩) 1 1] (W.alloc (.cells #[.int .i64 7, .int .i32 120, .string ⟨#[]⟩] 26)) fun e w' => e = .returned (.bool true) ∧ PkS w w' := by
  subst hn
  have hb2 := (Below.refl W.heap.size W).alloc (Nat.le_refl _) (.cells #[.int .i64 7, .int .i32 120, .string ⟨#[]⟩] 26)
  have hs := h.below hb2
  exact (is_any ⟨#[27, 120]⟩ false _ [⟨7, 120, ⟨#[]⟩⟩] _ hs.u hs.t (by decide) (lit_keys W [⟨7, 120, ⟨#[]⟩⟩] (by simp)) (by decide) (by decide +kernel) (by have := told_len ⟨#[27, 120]⟩ false; have e : (⟨#[27, 120]⟩ : ByteArray).size = 2 := rfl; omega)).mono fun e w' hh => ⟨hh.1, hs.below hh.2⟩

theorem press3 (w W : World) (n : Nat) (hn : W.heap.size = n) (h : PkS w W) : Calls Tryd.prog 21 #[.string ⟨#[27, 27]⟩, .bool true, .slice (some ⟨n, 0, none⟩) 2 2] (W.alloc (.cells #[.int .i64 5, .int .i32 0, .string ⟨#[]⟩, .int .i64 5, .int .i32 0, .string ⟨#[]⟩] 26)) fun e w' => e = .returned (.bool true) ∧ PkS w w' := by
  subst hn
  have hb2 := (Below.refl W.heap.size W).alloc (Nat.le_refl _) (.cells #[.int .i64 5, .int .i32 0, .string ⟨#[]⟩, .int .i64 5, .int .i32 0, .string ⟨#[]⟩] 26)
  have hs := h.below hb2
  exact (is_any ⟨#[27, 27]⟩ true _ [⟨5, 0, ⟨#[]⟩⟩, ⟨5, 0, ⟨#[]⟩⟩] _ hs.u hs.t (by decide) (lit_keys W [⟨5, 0, ⟨#[]⟩⟩, ⟨5, 0, ⟨#[]⟩⟩] (by simp)) (by decide) (by decide +kernel) (by have := told_len ⟨#[27, 27]⟩ true; have e : (⟨#[27, 27]⟩ : ByteArray).size = 2 := rfl; omega)).mono fun e w' hh => ⟨hh.1, hs.below hh.2⟩

theorem press4 (w W : World) (n : Nat) (hn : W.heap.size = n) (h : PkS w W) : Calls Tryd.prog 21 #[.string ⟨#[27, 91, 65]⟩, .bool false, .slice (some ⟨n, 0, none⟩) 1 1] (W.alloc (.cells #[.int .i64 8, .int .i32 0, .string ⟨#[]⟩] 26)) fun e w' => e = .returned (.bool true) ∧ PkS w w' := by
  subst hn
  have hb2 := (Below.refl W.heap.size W).alloc (Nat.le_refl _) (.cells #[.int .i64 8, .int .i32 0, .string ⟨#[]⟩] 26)
  have hs := h.below hb2
  exact (is_any ⟨#[27, 91, 65]⟩ false _ [⟨8, 0, ⟨#[]⟩⟩] _ hs.u hs.t (by decide) (lit_keys W [⟨8, 0, ⟨#[]⟩⟩] (by simp)) (by decide) (by decide +kernel) (by have := told_len ⟨#[27, 91, 65]⟩ false; have e : (⟨#[27, 91, 65]⟩ : ByteArray).size = 3 := rfl; omega)).mono fun e w' hh => ⟨hh.1, hs.below hh.2⟩

theorem press5 (w W : World) (n : Nat) (hn : W.heap.size = n) (h : PkS w W) : Calls Tryd.prog 21 #[.string ⟨#[27, 79, 72]⟩, .bool false, .slice (some ⟨n, 0, none⟩) 1 1] (W.alloc (.cells #[.int .i64 12, .int .i32 0, .string ⟨#[]⟩] 26)) fun e w' => e = .returned (.bool true) ∧ PkS w w' := by
  subst hn
  have hb2 := (Below.refl W.heap.size W).alloc (Nat.le_refl _) (.cells #[.int .i64 12, .int .i32 0, .string ⟨#[]⟩] 26)
  have hs := h.below hb2
  exact (is_any ⟨#[27, 79, 72]⟩ false _ [⟨12, 0, ⟨#[]⟩⟩] _ hs.u hs.t (by decide) (lit_keys W [⟨12, 0, ⟨#[]⟩⟩] (by simp)) (by decide) (by decide +kernel) (by have := told_len ⟨#[27, 79, 72]⟩ false; have e : (⟨#[27, 79, 72]⟩ : ByteArray).size = 3 := rfl; omega)).mono fun e w' hh => ⟨hh.1, hs.below hh.2⟩

theorem press6 (w W : World) (n : Nat) (hn : W.heap.size = n) (h : PkS w W) : Calls Tryd.prog 21 #[.string ⟨#[27, 91, 51, 126]⟩, .bool false, .slice (some ⟨n, 0, none⟩) 1 1] (W.alloc (.cells #[.int .i64 14, .int .i32 0, .string ⟨#[]⟩] 26)) fun e w' => e = .returned (.bool true) ∧ PkS w w' := by
  subst hn
  have hb2 := (Below.refl W.heap.size W).alloc (Nat.le_refl _) (.cells #[.int .i64 14, .int .i32 0, .string ⟨#[]⟩] 26)
  have hs := h.below hb2
  exact (is_any ⟨#[27, 91, 51, 126]⟩ false _ [⟨14, 0, ⟨#[]⟩⟩] _ hs.u hs.t (by decide) (lit_keys W [⟨14, 0, ⟨#[]⟩⟩] (by simp)) (by decide) (by decide +kernel) (by have := told_len ⟨#[27, 91, 51, 126]⟩ false; have e : (⟨#[27, 91, 51, 126]⟩ : ByteArray).size = 4 := rfl; omega)).mono fun e w' hh => ⟨hh.1, hs.below hh.2⟩

theorem press7 (w W : World) (n : Nat) (hn : W.heap.size = n) (h : PkS w W) : Calls Tryd.prog 21 #[.string ⟨#[27, 91, 57, 122]⟩, .bool false, .slice (some ⟨n, 0, none⟩) 1 1] (W.alloc (.cells #[.int .i64 0, .int .i32 0, .string ⟨#[27, 91, 57, 122]⟩] 26)) fun e w' => e = .returned (.bool true) ∧ PkS w w' := by
  subst hn
  have hb2 := (Below.refl W.heap.size W).alloc (Nat.le_refl _) (.cells #[.int .i64 0, .int .i32 0, .string ⟨#[27, 91, 57, 122]⟩] 26)
  have hs := h.below hb2
  exact (is_any ⟨#[27, 91, 57, 122]⟩ false _ [⟨0, 0, ⟨#[27, 91, 57, 122]⟩⟩] _ hs.u hs.t (by decide) (lit_keys W [⟨0, 0, ⟨#[27, 91, 57, 122]⟩⟩] (by simp)) (by decide) (by decide +kernel) (by have := told_len ⟨#[27, 91, 57, 122]⟩ false; have e : (⟨#[27, 91, 57, 122]⟩ : ByteArray).size = 4 := rfl; omega)).mono fun e w' hh => ⟨hh.1, hs.below hh.2⟩

theorem press8 (w W : World) (n : Nat) (hn : W.heap.size = n) (h : PkS w W) : Calls Tryd.prog 21 #[.string ⟨#[27, 91, 50, 48, 48, 126, 97, 13, 1, 255, 27, 91, 50, 48, 49, 126]⟩, .bool false, .slice (some ⟨n, 0, none⟩) 1 1] (W.alloc (.cells #[.int .i64 15, .int .i32 0, .string ⟨#[97, 10]⟩] 26)) fun e w' => e = .returned (.bool true) ∧ PkS w w' := by
  subst hn
  have hb2 := (Below.refl W.heap.size W).alloc (Nat.le_refl _) (.cells #[.int .i64 15, .int .i32 0, .string ⟨#[97, 10]⟩] 26)
  have hs := h.below hb2
  exact (is_any ⟨#[27, 91, 50, 48, 48, 126, 97, 13, 1, 255, 27, 91, 50, 48, 49, 126]⟩ false _ [⟨15, 0, ⟨#[97, 10]⟩⟩] _ hs.u hs.t (by decide) (lit_keys W [⟨15, 0, ⟨#[97, 10]⟩⟩] (by simp)) (by decide) (by decide +kernel) (by have := told_len ⟨#[27, 91, 50, 48, 48, 126, 97, 13, 1, 255, 27, 91, 50, 48, 49, 126]⟩ false; have e : (⟨#[27, 91, 50, 48, 48, 126, 97, 13, 1, 255, 27, 91, 50, 48, 49, 126]⟩ : ByteArray).size = 16 := rfl; omega)).mono fun e w' hh => ⟨hh.1, hs.below hh.2⟩

theorem press9 (w W : World) (n : Nat) (hn : W.heap.size = n) (h : PkS w W) : Calls Tryd.prog 21 #[.string ⟨#[195, 97]⟩, .bool false, .slice (some ⟨n, 0, none⟩) 2 2] (W.alloc (.cells #[.int .i64 0, .int .i32 0, .string ⟨#[195]⟩, .int .i64 1, .int .i32 97, .string ⟨#[]⟩] 26)) fun e w' => e = .returned (.bool true) ∧ PkS w w' := by
  subst hn
  have hb2 := (Below.refl W.heap.size W).alloc (Nat.le_refl _) (.cells #[.int .i64 0, .int .i32 0, .string ⟨#[195]⟩, .int .i64 1, .int .i32 97, .string ⟨#[]⟩] 26)
  have hs := h.below hb2
  exact (is_any ⟨#[195, 97]⟩ false _ [⟨0, 0, ⟨#[195]⟩⟩, ⟨1, 97, ⟨#[]⟩⟩] _ hs.u hs.t (by decide) (lit_keys W [⟨0, 0, ⟨#[195]⟩⟩, ⟨1, 97, ⟨#[]⟩⟩] (by simp)) (by decide) (by decide +kernel) (by have := told_len ⟨#[195, 97]⟩ false; have e : (⟨#[195, 97]⟩ : ByteArray).size = 2 := rfl; omega)).mono fun e w' hh => ⟨hh.1, hs.below hh.2⟩

theorem press10 (w W : World) (n : Nat) (hn : W.heap.size = n) (h : PkS w W) : Calls Tryd.prog 21 #[.string ⟨#[195]⟩, .bool true, .slice (some ⟨n, 0, none⟩) 1 1] (W.alloc (.cells #[.int .i64 0, .int .i32 0, .string ⟨#[195]⟩] 26)) fun e w' => e = .returned (.bool true) ∧ PkS w w' := by
  subst hn
  have hb2 := (Below.refl W.heap.size W).alloc (Nat.le_refl _) (.cells #[.int .i64 0, .int .i32 0, .string ⟨#[195]⟩] 26)
  have hs := h.below hb2
  exact (is_any ⟨#[195]⟩ true _ [⟨0, 0, ⟨#[195]⟩⟩] _ hs.u hs.t (by decide) (lit_keys W [⟨0, 0, ⟨#[195]⟩⟩] (by simp)) (by decide) (by decide +kernel) (by have := told_len ⟨#[195]⟩ true; have e : (⟨#[195]⟩ : ByteArray).size = 1 := rfl; omega)).mono fun e w' hh => ⟨hh.1, hs.below hh.2⟩

set_option maxRecDepth 100000 in
set_option maxHeartbeats 4000000 in
theorem pressed_any (w : World) (hU : UTabs w) (hT : WTabs w) : Calls Tryd.prog 9 #[] w fun e w' => e = .returned (.bool true) ∧ Below w.heap.size w w' := by
  have HS := hide (PkS.start hU hT)
  clear hU hT
  have a0 := HS.out.e.cell (i := 0) rfl; have a1 := HS.out.e.cell (i := 1) rfl; have a2 := HS.out.e.cell (i := 2) rfl
  have b0 := HS.out.a.cell (i := 0) rfl; have b1 := HS.out.a.cell (i := 1) rfl; have b2 := HS.out.a.cell (i := 2) rfl
  have c0 := HS.out.b.cell (i := 0) rfl; have c1 := HS.out.b.cell (i := 1) rfl; have c2 := HS.out.b.cell (i := 2) rfl
  go_enter Tryd.func9, Tryd.ntmps9

  go_wp2_with fail
  refine (press0 w _ _ (by first | rfl | simp | (simp; omega)) HS.out).mono ?_
  rintro e w1 ⟨rfl, hs⟩
  replace HS := hide hs
  have a0 := hs.e.cell (i := 0) rfl; have a1 := hs.e.cell (i := 1) rfl; have a2 := hs.e.cell (i := 2) rfl
  have b0 := hs.a.cell (i := 0) rfl; have b1 := hs.a.cell (i := 1) rfl; have b2 := hs.a.cell (i := 2) rfl
  have c0 := hs.b.cell (i := 0) rfl; have c1 := hs.b.cell (i := 1) rfl; have c2 := hs.b.cell (i := 2) rfl
  clear hs
  go_wp2_with fail
  refine (press1 w _ _ (by first | rfl | simp | (simp; omega)) HS.out).mono ?_
  rintro e w2 ⟨rfl, hs⟩
  replace HS := hide hs
  have a0 := hs.e.cell (i := 0) rfl; have a1 := hs.e.cell (i := 1) rfl; have a2 := hs.e.cell (i := 2) rfl
  have b0 := hs.a.cell (i := 0) rfl; have b1 := hs.a.cell (i := 1) rfl; have b2 := hs.a.cell (i := 2) rfl
  have c0 := hs.b.cell (i := 0) rfl; have c1 := hs.b.cell (i := 1) rfl; have c2 := hs.b.cell (i := 2) rfl
  clear hs
  go_wp2_with fail
  refine (press2 w _ _ (by first | rfl | simp | (simp; omega)) HS.out).mono ?_
  rintro e w3 ⟨rfl, hs⟩
  replace HS := hide hs
  have a0 := hs.e.cell (i := 0) rfl; have a1 := hs.e.cell (i := 1) rfl; have a2 := hs.e.cell (i := 2) rfl
  have b0 := hs.a.cell (i := 0) rfl; have b1 := hs.a.cell (i := 1) rfl; have b2 := hs.a.cell (i := 2) rfl
  have c0 := hs.b.cell (i := 0) rfl; have c1 := hs.b.cell (i := 1) rfl; have c2 := hs.b.cell (i := 2) rfl
  clear hs
  go_wp2_with fail
  refine (press3 w _ _ (by first | rfl | simp | (simp; omega)) HS.out).mono ?_
  rintro e w4 ⟨rfl, hs⟩
  replace HS := hide hs
  have a0 := hs.e.cell (i := 0) rfl; have a1 := hs.e.cell (i := 1) rfl; have a2 := hs.e.cell (i := 2) rfl
  have b0 := hs.a.cell (i := 0) rfl; have b1 := hs.a.cell (i := 1) rfl; have b2 := hs.a.cell (i := 2) rfl
  have c0 := hs.b.cell (i := 0) rfl; have c1 := hs.b.cell (i := 1) rfl; have c2 := hs.b.cell (i := 2) rfl
  clear hs
  go_wp2_with fail
  refine (press4 w _ _ (by first | rfl | simp | (simp; omega)) HS.out).mono ?_
  rintro e w5 ⟨rfl, hs⟩
  replace HS := hide hs
  have a0 := hs.e.cell (i := 0) rfl; have a1 := hs.e.cell (i := 1) rfl; have a2 := hs.e.cell (i := 2) rfl
  have b0 := hs.a.cell (i := 0) rfl; have b1 := hs.a.cell (i := 1) rfl; have b2 := hs.a.cell (i := 2) rfl
  have c0 := hs.b.cell (i := 0) rfl; have c1 := hs.b.cell (i := 1) rfl; have c2 := hs.b.cell (i := 2) rfl
  clear hs
  go_wp2_with fail
  refine (press5 w _ _ (by first | rfl | simp | (simp; omega)) HS.out).mono ?_
  rintro e w6 ⟨rfl, hs⟩
  replace HS := hide hs
  have a0 := hs.e.cell (i := 0) rfl; have a1 := hs.e.cell (i := 1) rfl; have a2 := hs.e.cell (i := 2) rfl
  have b0 := hs.a.cell (i := 0) rfl; have b1 := hs.a.cell (i := 1) rfl; have b2 := hs.a.cell (i := 2) rfl
  have c0 := hs.b.cell (i := 0) rfl; have c1 := hs.b.cell (i := 1) rfl; have c2 := hs.b.cell (i := 2) rfl
  clear hs
  go_wp2_with fail
  refine (press6 w _ _ (by first | rfl | simp | (simp; omega)) HS.out).mono ?_
  rintro e w7 ⟨rfl, hs⟩
  replace HS := hide hs
  have a0 := hs.e.cell (i := 0) rfl; have a1 := hs.e.cell (i := 1) rfl; have a2 := hs.e.cell (i := 2) rfl
  have b0 := hs.a.cell (i := 0) rfl; have b1 := hs.a.cell (i := 1) rfl; have b2 := hs.a.cell (i := 2) rfl
  have c0 := hs.b.cell (i := 0) rfl; have c1 := hs.b.cell (i := 1) rfl; have c2 := hs.b.cell (i := 2) rfl
  clear hs
  go_wp2_with fail
  refine (press7 w _ _ (by first | rfl | simp | (simp; omega)) HS.out).mono ?_
  rintro e w8 ⟨rfl, hs⟩
  replace HS := hide hs
  have a0 := hs.e.cell (i := 0) rfl; have a1 := hs.e.cell (i := 1) rfl; have a2 := hs.e.cell (i := 2) rfl
  have b0 := hs.a.cell (i := 0) rfl; have b1 := hs.a.cell (i := 1) rfl; have b2 := hs.a.cell (i := 2) rfl
  have c0 := hs.b.cell (i := 0) rfl; have c1 := hs.b.cell (i := 1) rfl; have c2 := hs.b.cell (i := 2) rfl
  clear hs
  go_wp2_with fail
  refine (press8 w _ _ (by first | rfl | simp | (simp; omega)) HS.out).mono ?_
  rintro e w9 ⟨rfl, hs⟩
  replace HS := hide hs
  have a0 := hs.e.cell (i := 0) rfl; have a1 := hs.e.cell (i := 1) rfl; have a2 := hs.e.cell (i := 2) rfl
  have b0 := hs.a.cell (i := 0) rfl; have b1 := hs.a.cell (i := 1) rfl; have b2 := hs.a.cell (i := 2) rfl
  have c0 := hs.b.cell (i := 0) rfl; have c1 := hs.b.cell (i := 1) rfl; have c2 := hs.b.cell (i := 2) rfl
  clear hs
  go_wp2_with fail
  refine (press9 w _ _ (by first | rfl | simp | (simp; omega)) HS.out).mono ?_
  rintro e w10 ⟨rfl, hs⟩
  replace HS := hide hs
  have a0 := hs.e.cell (i := 0) rfl; have a1 := hs.e.cell (i := 1) rfl; have a2 := hs.e.cell (i := 2) rfl
  have b0 := hs.a.cell (i := 0) rfl; have b1 := hs.a.cell (i := 1) rfl; have b2 := hs.a.cell (i := 2) rfl
  have c0 := hs.b.cell (i := 0) rfl; have c1 := hs.b.cell (i := 1) rfl; have c2 := hs.b.cell (i := 2) rfl
  clear hs
  go_wp2_with fail
  refine (press10 w _ _ (by first | rfl | simp | (simp; omega)) HS.out).mono ?_
  rintro e w11 ⟨rfl, hs⟩
  replace HS := hide hs
  have a0 := hs.e.cell (i := 0) rfl; have a1 := hs.e.cell (i := 1) rfl; have a2 := hs.e.cell (i := 2) rfl
  have b0 := hs.a.cell (i := 0) rfl; have b1 := hs.a.cell (i := 1) rfl; have b2 := hs.a.cell (i := 2) rfl
  have c0 := hs.b.cell (i := 0) rfl; have c1 := hs.b.cell (i := 1) rfl; have c2 := hs.b.cell (i := 2) rfl
  clear hs
  go_wp2_with fail
  go_ret
  exact ⟨rfl, HS.out.low⟩
end Go.Proofs.YtiilgeinkocanaaDoor
