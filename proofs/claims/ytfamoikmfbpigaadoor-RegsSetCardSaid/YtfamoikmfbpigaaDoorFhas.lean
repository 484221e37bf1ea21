/- regs.Has, limnerref10.Has. -/
import Derived.Test.YtfamoikmfbpigaaDoorEsig
import Derived.Laws.Bits64
import Derived.Laws.Bits64b
namespace Go.Proofs.YtfamoikmfbpigaaDoor
open Go.RowKit

/-- Is a byte in a set? -/
def hasS (S : List Nat) (b : Nat) : Bool := (S[b / 64]?.getD 0).testBit (b % 64)
def u4 (S : List Nat) : List Value := S.map fun (x : Nat) => Value.int .u64 (x : Int)
theorem u4_at {S : List Nat} {q x : Nat} (h : S[q]? = some x) : (u4 S)[q]? = some (.int .u64 (x : Int)) := by simp [u4, h]
theorem tb_dec (x r : Nat) : x.testBit r = decide (x / 2 ^ r % 2 = 1) := Nat.testBit_eq_decide_div_mod_eq
theorem has_and (x r : Nat) (hx : x < 18446744073709551616) : (bits .and .u64 ((x : Int) / 2 ^ r) 1 == 1) = x.testBit r := by
  have e : ((x : Int) / 2 ^ r) = ((x / 2 ^ r : Nat) : Int) := by push_cast; rfl
  rw [e, show (1 : Int) = ((1 : Nat) : Int) from rfl, bits_and_u64_nat _ _ (Nat.lt_of_le_of_lt (Nat.div_le_self _ _) hx) (by omega), Nat.and_one_is_mod, tb_dec]
  have h2 : x / 2 ^ r % 2 < 2 := Nat.mod_lt _ (by omega)
  generalize x / 2 ^ r % 2 = y at h2
  match y, h2 with
  | 0, _ => rfl
  | 1, _ => rfl
theorem has_mod (x r : Nat) : (((x : Int) / 2 ^ r).tmod 2 == 1) = x.testBit r := by
  have e : ((x : Int) / 2 ^ r) = ((x / 2 ^ r : Nat) : Int) := by push_cast; rfl
  rw [e, tb_dec, show ((x / 2 ^ r : Nat) : Int).tmod 2 = ((x / 2 ^ r % 2 : Nat) : Int) from rfl]
  have h2 : x / 2 ^ r % 2 < 2 := Nat.mod_lt _ (by omega)
  generalize x / 2 ^ r % 2 = y at h2
  match y, h2 with
  | 0, _ => rfl
  | 1, _ => rfl
theorem ret_has {a b : Bool} (h : a = b) : Ending.returned (.bool a) = .returned (.bool b) := by rw [h]
set_option maxRecDepth 100000 in
theorem has_any (x0 x1 x2 x3 b : Nat) (w : World) (hS : W64 [x0, x1, x2, x3]) (hb : b < 256) :
    Calls Tryd.prog 14 #[.agg #[.int .u64 (x0 : Int), .int .u64 (x1 : Int), .int .u64 (x2 : Int), .int .u64 (x3 : Int)], .int .u8 (b : Int)] w fun e w' => e = .returned (.bool (hasS [x0, x1, x2, x3] b)) ∧ Below w.heap.size w w' := by
  obtain ⟨q, hq⟩ : ∃ q, b / 64 = q := ⟨_, rfl⟩
  obtain ⟨r, hr⟩ : ∃ r, b % 64 = r := ⟨_, rfl⟩
  have hq4 : q < 4 := by omega
  have hr64 : r < 64 := by omega
  have hqi : (b : Int) / 64 = (q : Int) := by omega
  have hri : (b : Int) % 64 = (r : Int) := by omega
  have HH := hide (show hasS [x0, x1, x2, x3] b = ([x0, x1, x2, x3][q]?.getD 0).testBit r by unfold hasS; rw [hq, hr])
  have hb1 : Below w.heap.size w (w.alloc (.cells (u4 [x0, x1, x2, x3]).toArray 24)) := (Below.refl _ _).alloc (Nat.le_refl _) _
  have hq0 : (0 : Int) ≤ (q : Int) := by omega
  have hq1 : (q : Int) < 4 := by omega
  have hr0 : (0 : Int) ≤ (r : Int) := by omega
  have hr1 : (r : Int) < 64 := by omega
  have HB := hide hb1
  have HS := hide hS
  have hq' : q = 0 ∨ q = 1 ∨ q = 2 ∨ q = 3 := by omega
  clear hS hb1
  rcases hq' with rfl | rfl | rfl | rfl
  all_goals (
    go_enter Tryd.func14, Tryd.ntmps14
    go_wp2
    go_ret
    exact ⟨ret_has (by rw [HH.out]; exact has_and _ r (HS.out.2 _ (by simp))), HB.out⟩)
set_option maxRecDepth 100000 in
theorem rhas_any (x0 x1 x2 x3 b : Nat) (w : World) (hS : W64 [x0, x1, x2, x3]) (hb : b < 256) :
    Calls Tryd.prog 19 #[.agg #[.int .u64 (x0 : Int), .int .u64 (x1 : Int), .int .u64 (x2 : Int), .int .u64 (x3 : Int)], .int .u8 (b : Int)] w fun e w' => e = .returned (.bool (hasS [x0, x1, x2, x3] b)) ∧ Below w.heap.size w w' := by
  obtain ⟨q, hq⟩ : ∃ q, b / 64 = q := ⟨_, rfl⟩
  obtain ⟨r, hr⟩ : ∃ r, b % 64 = r := ⟨_, rfl⟩
  have hq4 : q < 4 := by omega
  have hr64 : r < 64 := by omega
  have hqi : (b : Int) / 64 = (q : Int) := by omega
  have hri : (b : Int) % 64 = (r : Int) := by omega
  have HH := hide (show hasS [x0, x1, x2, x3] b = ([x0, x1, x2, x3][q]?.getD 0).testBit r by unfold hasS; rw [hq, hr])
  have hb1 : Below w.heap.size w (w.alloc (.cells (u4 [x0, x1, x2, x3]).toArray 24)) := (Below.refl _ _).alloc (Nat.le_refl _) _
  have hq0 : (0 : Int) ≤ (q : Int) := by omega
  have hq1 : (q : Int) < 4 := by omega
  have hr0 : (0 : Int) ≤ (r : Int) := by omega
  have hr1 : (r : Int) < 64 := by omega
  have HB := hide hb1
  have HS := hide hS
  have hq' : q = 0 ∨ q = 1 ∨ q = 2 ∨ q = 3 := by omega
  clear hS hb1
  rcases hq' with rfl | rfl | rfl | rfl
  all_goals (
    go_enter Tryd.func19, Tryd.ntmps19
    go_wp2
    go_ret
    exact ⟨ret_has (by rw [HH.out]; exact has_mod _ r), HB.out⟩)
end Go.Proofs.YtfamoikmfbpigaaDoor
