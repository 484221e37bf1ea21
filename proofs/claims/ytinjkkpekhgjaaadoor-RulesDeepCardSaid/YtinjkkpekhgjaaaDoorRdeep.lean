/- The walk of RulesDeep. -/
import Derived.Test.YtinjkkpekhgjaaaDoorRword
namespace Go.Proofs.YtinjkkpekhgjaaaDoor
open Go.RowKit

/-- A state in a box of two cells. -/
def St (W : World) (B : Nat) (a d : Int) : Prop := W.cell? ⟨B, 0, none⟩ = some (.int .i64 a) ∧ W.cell? ⟨B, 1, none⟩ = some (.int .i64 d) ∧ W.frozen? ⟨B, 0, none⟩ = false ∧ W.frozen? ⟨B, 1, none⟩ = false
theorem St.below {A W : World} {B : Nat} {a d : Int} (h : St A B a d) (hb : Below A.heap.size A W) : St W B a d := by
  have hlt := World.block_lt_of_cell? _ _ h.1
  exact ⟨(hb.cell (p := ⟨B, 0, none⟩) hlt).trans h.1, (hb.cell (p := ⟨B, 1, none⟩) hlt).trans h.2.1, (hb.frozen (p := ⟨B, 0, none⟩) hlt).trans h.2.2.1, (hb.frozen (p := ⟨B, 1, none⟩) hlt).trans h.2.2.2⟩
theorem St.set {W : World} {B : Nat} {a d : Int} (h : St W B a d) (a' d' : Int) : St ((W.setCell ⟨B, 0, none⟩ (.int .i64 a')).setCell ⟨B, 1, none⟩ (.int .i64 d')) B a' d' := by
  obtain ⟨h1, h2, h3, h4⟩ := h
  have e1 : (W.setCell ⟨B, 0, none⟩ (.int .i64 a')).cell? ⟨B, 0, none⟩ = some (.int .i64 a') := World.cell?_setCell_same _ _ _ h1
  have e2 : (W.setCell ⟨B, 0, none⟩ (.int .i64 a')).cell? ⟨B, 1, none⟩ = some (.int .i64 d) := (World.cell?_setCell_other _ _ _ _ (by simp)).trans h2
  exact ⟨(World.cell?_setCell_other _ _ _ _ (by simp)).trans e1, World.cell?_setCell_same _ _ _ e2, by rw [World.frozen?_setCell, World.frozen?_setCell]; exact h3, by rw [World.frozen?_setCell, World.frozen?_setCell]; exact h4⟩
theorem St.new (w : World) (a d : Int) (t : TypeId) : St (w.alloc (.cells #[.int .i64 a, .int .i64 d] t)) w.heap.size a d := by
  refine ⟨?_, ?_, ?_, ?_⟩
  · simp
  · simp
  · rw [frozen?_alloc_cells]; simp [World.frozen?]
  · rw [frozen?_alloc_cells]; simp [World.frozen?]

set_option maxHeartbeats 1000000 in
set_option maxRecDepth 100000 in
/-- **limnerlaw13.RulesDeep answers true.** -/
theorem lawDeep (n : Int) (w : World) (hn0 : 0 ≤ n) (hn1 : n ≤ 65535) (hT : RTab w) (hM : MTab w) : Calls Tryd.prog 3 #[.int .u16 n] w fun e w' => e = .returned (.bool true) ∧ Below w.heap.size w w' := by
  have HT := hide hT
  have HM := hide hM
  clear hT hM
  go_enter Tryd.func3, Tryd.ntmps3
  go_wp2_with fail
  refine (after_begin _ HT.out).mono ?_; rintro e w1 ⟨rfl, hb⟩; have B1 := hide hb; clear hb
  go_wp2_with fail
  obtain ⟨k, hk⟩ : ∃ k : Int, 1 + n % 1000 = k := ⟨_, rfl⟩
  have k1 : 1 ≤ k := by omega
  have k2 : k ≤ 1000 := by omega
  rw [hk]
  clear hk
  have HS := hide (St.new w1 2 1 24)
  have HB := hide (B1.out.alloc B1.out.size (.cells #[.int .i64 2, .int .i64 1] 24))
  have hBs : w.heap.size ≤ w1.heap.size := B1.out.size
  generalize w1.alloc (.cells #[.int .i64 2, .int .i64 1] 24) = w2 at *
  generalize w1.heap.size = B at *
  clear B1
  go_loopw [5] (fun i wr => ∃ m : Int, 1 ≤ m ∧ m ≤ k ∧ i = .int .i64 m ∧ Hid (St wr B 2 m) ∧ Below w.heap.size w wr) (fun i _ => (k - intOf i).toNat)
  case atStart => exact ⟨1, by omega, by omega, rfl, HS, HB.out⟩
  case round =>
    obtain ⟨m, hm1, hm2, rfl, HSr, hB⟩ := hrel
    obtain ⟨c0, c1, f0, f1⟩ := HSr.out
    have HBr := hide hB
    clear hB
    by_cases hlt : m < k
    · go_wp2_with fail
      refine (after_deep m _ (by omega) (by omega) (HT.out.below HBr.out)).mono ?_; rintro e w3 ⟨rfl, hb⟩
      have HS3 := hide (HSr.out.below hb)
      have HB3 := hide (HBr.out.trans (hb.mono HBr.out.size))
      obtain ⟨c0', c1', f0', f1'⟩ := HS3.out
      clear hb c0 c1 f0 f1
      go_wp2
      go_roundw
      case rel => exact ⟨m + 1, by omega, by omega, by go_num, HS3.out.set 2 (m + 1), by have := HB3.out; go_grown⟩
      case measure => simp [intOf]; omega
    · obtain rfl : m = k := by omega
      go_wp2
      clear c0 c1 f0 f1 hlt hm1 hm2
      go_loopw [6] (fun i wr => ∃ j d a : Int, 0 ≤ j ∧ 0 ≤ d ∧ i = .int .i64 j ∧ Hid (j + d = m ∧ (1 ≤ d ∧ a = 2 ∨ d = 0 ∧ a = 0)) ∧ Hid (St wr B a d) ∧ Below w.heap.size w wr) (fun i _ => (m - intOf i).toNat)
      case atStart => exact ⟨0, m, 2, by omega, by omega, rfl, ⟨by omega, .inl ⟨k1, rfl⟩⟩, HSr, HBr.out⟩
      case round =>
        obtain ⟨j, d, a, hj, hd, rfl, HJ, HSq, hB⟩ := hrel
        have HBq := hide hB
        clear hB
        have hcase : (1 < d ∧ a = 2 ∧ j < m ∧ d ≤ 1000) ∨ (d = 1 ∧ a = 2 ∧ j < m) ∨ (d = 0 ∧ a = 0 ∧ m ≤ j) := by have := HJ.out; omega
        rcases hcase with ⟨d1, rfl, jm, d2⟩ | ⟨rfl, rfl, jm⟩ | ⟨rfl, rfl, jm⟩
        · obtain ⟨c0, c1, f0, f1⟩ := HSq.out
          go_wp2_with fail
          refine (after_less d _ d1 (by omega) (HT.out.below HBq.out)).mono ?_; rintro e w3 ⟨rfl, hb⟩
          have HS3 := hide (HSq.out.below hb)
          have HB3 := hide (HBq.out.trans (hb.mono HBq.out.size))
          obtain ⟨c0', c1', f0', f1'⟩ := HS3.out
          clear hb c0 c1 f0 f1
          go_wp2
          go_roundw
          case rel => exact ⟨j + 1, d - 1, 2, by omega, by omega, by go_num, by have := HJ.out; exact ⟨by omega, .inl ⟨by omega, rfl⟩⟩, HS3.out.set 2 (d - 1), by have := HB3.out; go_grown⟩
          case measure => simp [intOf]; omega
        · obtain ⟨c0, c1, f0, f1⟩ := HSq.out
          go_wp2_with fail
          refine (after_end _ (HT.out.below HBq.out)).mono ?_; rintro e w3 ⟨rfl, hb⟩
          have HS3 := hide (HSq.out.below hb)
          have HB3 := hide (HBq.out.trans (hb.mono HBq.out.size))
          obtain ⟨c0', c1', f0', f1'⟩ := HS3.out
          clear hb c0 c1 f0 f1
          go_wp2
          go_roundw
          case rel => exact ⟨j + 1, 0, 0, by omega, by omega, by go_num, by have := HJ.out; exact ⟨by omega, .inr ⟨rfl, rfl⟩⟩, HS3.out.set 0 0, by have := HB3.out; go_grown⟩
          case measure => simp [intOf]; omega
        · obtain ⟨c0, c1, f0, f1⟩ := HSq.out
          go_wp2_with fail
          refine (worded_any _ (HT.out.below HBq.out) (HM.out.below HBq.out)).mono ?_; rintro e w3 ⟨rfl, hb⟩
          go_wp2
          go_ret
          exact ⟨rfl, HBq.out.trans (hb.mono HBq.out.size)⟩
end Go.Proofs.YtinjkkpekhgjaaaDoor
