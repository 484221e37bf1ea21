/- Texts of pieces: what lies in the blocks; contracts of pieces.of, pieces.some (of none), pieces.New, (*Text).none and (*Text).String. -/
import Derived.Test.YtmllbaacjodccaaRows
import Derived.Test.YtmllbaacjodccaaShelf
import Derived.WalkKit
import Derived.WalkSpells
import Derived.WalkLawsBesides
import Derived.Handy
import Derived.OwnWalk
import Derived.Laws.OwnMore
import Derived.Maps.AppendAt
namespace Go.Proofs.Ytmllbaacjodccaa
open Go.RowKit
variable {R : Nat → Prop}

theorem hide {p : Prop} (h : p) : Hid p := h
theorem cell_same {w : World} {a : Addr} {v : Value} (h : (w.cell? a).isSome = true) : (w.setCell a v).cell? a = some v := by
  obtain ⟨u, hu⟩ := Option.isSome_iff_exists.1 h
  exact World.cell?_setCell_same _ _ _ hu

/-- The block holds cells of a type. -/
def Typed (W : World) (b : Nat) (t : TypeId) : Prop := ∃ c fz, W.heap[b]? = some (.cells c t fz)
theorem Typed.below {A W : World} {b : Nat} {t : TypeId} (h : Typed A b t) (hb : Below A.heap.size A W) : Typed W b t := by
  obtain ⟨c, fz, h⟩ := h
  exact ⟨c, fz, (hb.block b (Array.getElem?_eq_some_iff.1 h).1).trans h⟩
theorem Typed.new (w : World) (c : Array Value) (t : TypeId) : Typed (w.alloc (.cells c t)) w.heap.size t := ⟨c, _, heap_alloc_new w _⟩
theorem Typed.setCell {W : World} {b : Nat} {t : TypeId} (h : Typed W b t) (a : Addr) (v : Value) : Typed (W.setCell a v) b t := by
  obtain ⟨c, fz, h⟩ := h
  unfold World.setCell
  split <;> simp only [Typed, Array.getElem?_setIfInBounds, Array.getElem?_modify]
  all_goals
    split
    · rename_i e
      subst e
      simp_all
    · exact ⟨c, fz, h⟩
/-- The block holds strings, and is none of those. -/
def TyR (R : Nat → Prop) (W : World) (b : Nat) : Prop := Typed W b 9 ∧ ¬ R b
theorem TyR.below {A W : World} {b : Nat} (h : TyR R A b) (hb : Below A.heap.size A W) : TyR R W b := ⟨h.1.below hb, h.2⟩
theorem TyR.setCell {W : World} {b : Nat} (h : TyR R W b) (a : Addr) (v : Value) : TyR R (W.setCell a v) b := ⟨h.1.setCell a v, h.2⟩
/-- Those blocks lie below. -/
def Lows (R : Nat → Prop) (n : Nat) : Prop := ∀ b, n ≤ b → ¬ R b
theorem Lows.up {n m : Nat} (h : Lows R n) (hm : n ≤ m) : Lows R m := fun b hb => h b (Nat.le_trans hm hb)
theorem TyR.new {w : World} (hR : Lows R w.heap.size) (c : Array Value) : TyR R (w.alloc (.cells c 9)) w.heap.size := ⟨Typed.new _ _ _, hR _ (Nat.le_refl _)⟩
/-- The value is a slice of these strings. -/
def Strs (R : Nat → Prop) (W : World) (v : Value) (zs : List ByteArray) : Prop :=
  ∃ A cap, v = .slice A zs.length cap ∧ zs.length ≤ cap ∧ ∀ j, j < zs.length → ∃ b o, A = some ⟨b, o, none⟩ ∧ (TyR R W b ∧ W.frozen? ⟨b, o + j, none⟩ = false) ∧ W.cell? ⟨b, o + j, none⟩ = some (.string (zs[j]?.getD ByteArray.empty))
theorem Strs.below {A W : World} {v : Value} {zs : List ByteArray} (h : Strs R A v zs) (hb : Below A.heap.size A W) : Strs R W v zs := by
  obtain ⟨a, cap, e, hc, h⟩ := h
  refine ⟨a, cap, e, hc, fun j hj => ?_⟩
  obtain ⟨b, o, ea, ⟨ht, hf⟩, hcell⟩ := h j hj
  exact ⟨b, o, ea, ⟨ht.below hb, (hb.frozen (p := ⟨b, o + j, none⟩) (World.block_lt_of_cell? _ _ hcell)).trans hf⟩, (hb.cell (World.block_lt_of_cell? _ _ hcell)).trans hcell⟩
def total (zs : List ByteArray) : Nat := (zs.map ByteArray.size).sum
theorem total_take (zs : List ByteArray) (k : Nat) (h : k < zs.length) : total (zs.take (k + 1)) = total (zs.take k) + (zs[k]?.getD ByteArray.empty).size := by
  unfold total
  rw [List.take_succ_eq_append_getElem h, List.map_append, List.sum_append]
  simp only [List.map_cons, List.map_nil, List.sum_cons, List.sum_nil, Nat.add_zero, List.getElem?_eq_getElem h, Option.getD_some]
theorem total_le (zs : List ByteArray) (k : Nat) : total (zs.take k) ≤ total zs := by
  have : total zs = total (zs.take k) + total (zs.drop k) := by
    unfold total; rw [← List.sum_append, ← List.map_append, List.take_append_drop]
  omega

/-- The value is a text of these pieces. -/
def TextAt (R : Nat → Prop) (W : World) (p : Value) (zs : List ByteArray) : Prop :=
  ∃ b v, p = .pointer (some ⟨b, 0, none⟩) ∧ Typed W b 52 ∧ W.cell? ⟨b, 0, none⟩ = some (.bool true) ∧ W.cell? ⟨b, 1, none⟩ = some v ∧ W.cell? ⟨b, 2, none⟩ = some (.int .i64 (total zs : Nat)) ∧ Strs R W v zs
theorem TextAt.below {A W : World} {p : Value} {zs : List ByteArray} (h : TextAt R A p zs) (hb : Below A.heap.size A W) : TextAt R W p zs := by
  obtain ⟨b, v, e, ht, h0, h1, h2, hs⟩ := h
  exact ⟨b, v, e, ht.below hb, (hb.cell (World.block_lt_of_cell? _ _ h0)).trans h0, (hb.cell (World.block_lt_of_cell? _ _ h1)).trans h1, (hb.cell (World.block_lt_of_cell? _ _ h2)).trans h2, hs.below hb⟩

/-- A box of three cells. -/
def Box3 (W : World) (B : Nat) (v : Value) (n : Int) : Prop := Typed W B 52 ∧ W.cell? ⟨B, 0, none⟩ = some (.bool true) ∧ W.cell? ⟨B, 1, none⟩ = some v ∧ W.cell? ⟨B, 2, none⟩ = some (.int .i64 n) ∧ W.frozen? ⟨B, 2, none⟩ = false
theorem Box3.new (w : World) (v : Value) (n : Int) : Box3 (w.alloc (.cells #[.bool true, v, .int .i64 n] 52)) w.heap.size v n := by
  refine ⟨Typed.new _ _ _, by simp, by simp, by simp, ?_⟩
  rw [frozen?_alloc_cells]; simp [World.frozen?]
theorem Box3.set {W : World} {B : Nat} {v : Value} {n : Int} (h : Box3 W B v n) (m : Int) : Box3 (W.setCell ⟨B, 2, none⟩ (.int .i64 m)) B v m := by
  obtain ⟨ht, h0, h1, h2, h3⟩ := h
  exact ⟨ht.setCell _ _, (World.cell?_setCell_other _ _ _ _ (by simp)).trans h0, (World.cell?_setCell_other _ _ _ _ (by simp)).trans h1, World.cell?_setCell_same _ _ _ h2, by rw [World.frozen?_setCell]; exact h3⟩

set_option maxHeartbeats 1000000 in
theorem of_any (v : Value) (zs : List ByteArray) (w : World) (hz : total zs ≤ 1048576) (hl : zs.length ≤ 1048576) (h : Strs R w v zs) :
    Calls Try.prog 22 #[v] w fun e w' => ∃ p, e = .returned p ∧ TextAt R w' p zs ∧ Below w.heap.size w w' := by
  have HV := hide h
  obtain ⟨A, cap, rfl, hcap, hst⟩ := h
  have HS := hide hst
  clear hst
  go_enter Try.func22, Try.ntmps22
  go_wp2
  go_loopw [11] (fun i wr => ∃ k : Nat, k ≤ zs.length ∧ i = .int .i64 k ∧ Hid (Box3 wr w.heap.size (.slice A zs.length cap) (total (zs.take k) : Nat)) ∧ Below w.heap.size w wr) (fun i _ => zs.length - (intOf i).toNat)
  case atStart => exact ⟨0, by omega, rfl, hide (by simpa [total] using Box3.new w (.slice A zs.length cap) 0), (Below.refl _ _).alloc (Nat.le_refl _) _⟩
  case round =>
    obtain ⟨k, hk, rfl, HB, hB⟩ := hrel
    have HBl := hide hB
    clear hB
    by_cases hlt : k < zs.length
    · obtain ⟨b, o, rfl, -, hc0⟩ := HS.out k hlt
      have hc := (HBl.out.cell (p := ⟨b, o + k, none⟩) (World.block_lt_of_cell? _ _ hc0)).trans hc0
      have ht := total_take zs k hlt
      have ht2 := total_le zs (k + 1)
      obtain ⟨-, c0, c1, c2, f2⟩ := HB.out
      generalize zs[k]?.getD ByteArray.empty = s at *
      have z1 : total (zs.take k) + s.size ≤ 1048576 := by omega
      have HT := hide ht
      have HBB := HB
      clear ht ht2 hc0
      generalize total (zs.take k) = x at *
      go_wp2
      go_roundw
      case rel => exact ⟨k + 1, by omega, by go_num, hide (by rw [HT.out]; simpa using HB.out.set (x + s.size : Int)), HBl.out.setCell (by simp) _⟩
      case measure => simp [intOf]; omega
    · obtain rfl : k = zs.length := by omega
      obtain ⟨ht3, hb3⟩ := HB.out
      rw [List.take_length] at hb3
      have HT3 := hide ht3
      clear ht3
      go_wp2
      go_ret
      exact ⟨_, rfl, ⟨_, _, rfl, HT3.out, hb3.1, hb3.2.1, hb3.2.2.1, HV.out.below HBl.out⟩, HBl.out⟩
end Go.Proofs.Ytmllbaacjodccaa
