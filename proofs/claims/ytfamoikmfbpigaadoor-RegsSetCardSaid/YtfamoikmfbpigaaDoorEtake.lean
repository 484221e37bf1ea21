/- regs' reader: next, take, skip, need. -/
import Derived.Test.YtfamoikmfbpigaaDoorHide
import Derived.Test.YtfamoikmfbpigaaDoorOpenrow
import Derived.Test.YtfamoikmfbpigaaDoorBlk
import Derived.Test.YtfamoikmfbpigaaDoorShelf
import Derived.WalkKit
import Derived.WalkSpells
import Derived.WalkLawsBesides
import Derived.Handy
import Derived.OwnWalk
import Derived.BigQuiet
import Derived.Deep.QuietTactic
import Derived.Deep.RegionHeld3
namespace Go.Proofs.YtfamoikmfbpigaaDoor
open Go.RowKit

/-- The reader at block p: the rest of its text. -/
def Rd (W : World) (p : Nat) (s : ByteArray) : Prop := Blk W p 60 [.string s]
theorem ne_emp {s : ByteArray} (h : s.size ≠ 0) : (s.toList == []) = false := by
  rw [ByteArray.toList_eq]
  cases hh : s.data.toList with
  | nil => exact absurd (by show s.data.toList.length = 0; rw [hh]; rfl) h
  | cons a l => rfl
theorem is_emp {s : ByteArray} (h : s.size = 0) : s = ⟨#[]⟩ := by
  cases s with | mk d => cases d with | mk l => cases l with | nil => rfl | cons a l => simp [ByteArray.size] at h
/-- The panic of a text that is no rule's. -/
abbrev panE : Ending := .panicked [{ v := .iface 57 (.agg #[]), recovered := false }]
/-- Only the reader's cell is written, and new blocks. -/
structure KeepR (p : Nat) (W V : World) : Prop where
  os : V.os = W.os
  tape : V.tape = W.tape
  output : V.output = W.output
  size : W.heap.size ≤ V.heap.size
  block : ∀ b, b < W.heap.size → b ≠ p → V.heap[b]? = W.heap[b]?
theorem KeepR.of {p : Nat} {W V : World} (h : Below W.heap.size W V) : KeepR p W V := ⟨h.os, h.tape, h.output, h.size, fun b hb _ => h.block b hb⟩
theorem KeepR.refl (p : Nat) (W : World) : KeepR p W W := KeepR.of (Below.refl _ _)
theorem KeepR.trans {p : Nat} {A W V : World} (h : KeepR p A W) (h2 : KeepR p W V) : KeepR p A V :=
  ⟨h2.os.trans h.os, h2.tape.trans h.tape, h2.output.trans h.output, Nat.le_trans h.size h2.size, fun b hb hne => (h2.block b (Nat.lt_of_lt_of_le hb h.size) hne).trans (h.block b hb hne)⟩
theorem KeepR.set (p : Nat) (W : World) (v : Value) : KeepR p W (W.setCell ⟨p, 0, none⟩ v) :=
  ⟨rfl, rfl, rfl, by unfold World.setCell; simp, fun b _ hne => Below.heap_setCell _ _ _ _ hne⟩
theorem KeepR.blk {p b : Nat} {W V : World} {t : TypeId} {cs : List Value} (h : KeepR p W V) (hb : Blk W b t cs) (hne : b ≠ p) : Blk V b t cs := (h.block b hb.lt hne).trans hb
theorem KeepR.cell {p b o : Nat} {W V : World} {u : Value} (h : KeepR p W V) (hc : W.cell? ⟨b, o, none⟩ = some u) (hne : b ≠ p) : V.cell? ⟨b, o, none⟩ = some u :=
  (World.cell?_of_block (h.block b (World.block_lt_of_cell? _ _ hc) hne)).trans hc
theorem Rd.lt {W : World} {p : Nat} {s : ByteArray} (h : Rd W p s) : p < W.heap.size := Blk.lt h
theorem Rd.below {w W : World} {p : Nat} {s : ByteArray} (h : Rd w p s) (hb : Below w.heap.size w W) : Rd W p s := Blk.below h hb
set_option maxRecDepth 100000 in
theorem take_none (p : Nat) (w : World) (h : Rd w p ⟨#[]⟩) : Calls Tryd.prog 62 #[.pointer (some ⟨p, 0, none⟩)] w fun e w' => e = panE ∧ w = w' := by
  have r0 := h.cell (i := 0) rfl
  clear h
  go_enter Tryd.func62, Tryd.ntmps62
  go_wp2
  exact ⟨rfl, rfl, rfl⟩
set_option maxRecDepth 100000 in
theorem take_some (p : Nat) (s : ByteArray) (w : World) (h : Rd w p s) (h0 : 0 < s.size) (hm : s.size ≤ 1000000) : Calls Tryd.prog 62 #[.pointer (some ⟨p, 0, none⟩)] w fun e w' => e = .returned (.int .u8 (s[0].toNat : Int)) ∧ Rd w' p (s.extract 1 s.size) ∧ KeepR p w w' := by
  have r0 := h.cell (i := 0) rfl
  have rf := h.frozen 0
  have he := ne_emp (s := s) (by omega)
  have H := hide h
  clear h
  go_enter Tryd.func62, Tryd.ntmps62
  go_wp2
  go_ret
  exact ⟨rfl, Blk.set H.out 0 _, KeepR.set _ _ _⟩
/-- The next byte; 0 at the end. -/
def nextB (s : ByteArray) : Nat := if h : 0 < s.size then s[0].toNat else 0
set_option maxRecDepth 100000 in
theorem rnext_any (p : Nat) (s : ByteArray) (w : World) (h : Rd w p s) (hm : s.size ≤ 1000000) : Calls Tryd.prog 61 #[.pointer (some ⟨p, 0, none⟩)] w fun e w' => e = .returned (.int .u8 (nextB s : Int)) ∧ w = w' := by
  have r0 := h.cell (i := 0) rfl
  clear h
  by_cases h0 : 0 < s.size
  · have he := ne_emp (s := s) (by omega)
    have HN := hide (show nextB s = s[0].toNat from dif_pos h0)
    go_enter Tryd.func61, Tryd.ntmps61
    go_wp2
    go_ret
    exact ⟨by rw [HN.out]; rfl, rfl⟩
  · obtain rfl := is_emp (s := s) (by omega)
    go_enter Tryd.func61, Tryd.ntmps61
    go_wp2
    go_ret
    exact ⟨rfl, rfl⟩
/-- Is this byte next? -/
def isB (s : ByteArray) (b : Nat) : Bool := if h : 0 < s.size then s[0].toNat == b else false
def skipS (s : ByteArray) (b : Nat) : ByteArray := if isB s b = true then s.extract 1 s.size else s
set_option maxRecDepth 100000 in
theorem skip_any (p : Nat) (s : ByteArray) (b : Nat) (w : World) (h : Rd w p s) (hm : s.size ≤ 1000000) : Calls Tryd.prog 38 #[.pointer (some ⟨p, 0, none⟩), .int .u8 (b : Int)] w fun e w' => e = .returned (.bool (isB s b)) ∧ Rd w' p (skipS s b) ∧ KeepR p w w' := by
  have r0 := h.cell (i := 0) rfl
  have rf := h.frozen 0
  have H := hide h
  clear h
  by_cases h0 : 0 < s.size
  · have he := ne_emp (s := s) (by omega)
    by_cases hb : s[0].toNat = b
    · have HB := hide (show isB s b = true by unfold isB; rw [dif_pos h0]; simpa using hb)
      have HS := hide (show skipS s b = s.extract 1 s.size by unfold skipS; rw [if_pos HB.out])
      have q1 : ((s[0].toNat : Int) != (b : Int)) = false := by simp; omega
      clear hb
      go_enter Tryd.func38, Tryd.ntmps38
      go_wp2
      go_ret
      exact ⟨by rw [HB.out]; rfl, by rw [HS.out]; exact Blk.set H.out 0 _, KeepR.set _ _ _⟩
    · have HB := hide (show isB s b = false by unfold isB; rw [dif_pos h0]; simpa using hb)
      have HS := hide (show skipS s b = s by unfold skipS; rw [if_neg (by rw [HB.out]; decide)])
      have q1 : ((s[0].toNat : Int) != (b : Int)) = true := by simp; omega
      clear hb
      go_enter Tryd.func38, Tryd.ntmps38
      go_wp2
      go_ret
      exact ⟨by rw [HB.out]; rfl, by rw [HS.out]; exact H.out, KeepR.refl _ _⟩
  · obtain rfl := is_emp (s := s) (by omega)
    go_enter Tryd.func38, Tryd.ntmps38
    go_wp2
    go_ret
    exact ⟨rfl, H.out, KeepR.refl _ _⟩
set_option maxRecDepth 100000 in
theorem need_yes (p : Nat) (s : ByteArray) (b : Nat) (w : World) (h : Rd w p s) (hm : s.size ≤ 1000000) (hb : isB s b = true) : Calls Tryd.prog 69 #[.pointer (some ⟨p, 0, none⟩), .int .u8 (b : Int)] w fun e w' => e = .returned (.tuple #[]) ∧ Rd w' p (s.extract 1 s.size) ∧ KeepR p w w' := by
  have HK := hide (skip_any p s b w h hm)
  have HK := HK.out
  rw [hb, show skipS s b = s.extract 1 s.size from if_pos hb] at HK
  have HK := hide HK
  clear hb h
  go_enter Tryd.func69, Tryd.ntmps69
  go_wp2_with fail
  refine HK.out.mono ?_; rintro e w1 ⟨rfl, h1, h2⟩
  go_wp2
  go_end0
  exact ⟨rfl, h1, h2⟩
set_option maxRecDepth 100000 in
theorem need_no (p : Nat) (s : ByteArray) (b : Nat) (w : World) (h : Rd w p s) (hm : s.size ≤ 1000000) (hb : isB s b = false) : Calls Tryd.prog 69 #[.pointer (some ⟨p, 0, none⟩), .int .u8 (b : Int)] w fun e w' => e = panE ∧ KeepR p w w' := by
  have HK := skip_any p s b w h hm
  rw [hb] at HK
  have HK := hide HK
  clear hb h
  go_enter Tryd.func69, Tryd.ntmps69
  go_wp2_with fail
  refine HK.out.mono ?_; rintro e w1 ⟨rfl, h1, h2⟩
  go_wp2
  exact ⟨rfl, rfl, h2⟩
end Go.Proofs.YtfamoikmfbpigaaDoor
