/- Two cells of a screen, compared by the program. -/
import Derived.Test.YtojjdckpbmjjdaaDoorGsmall
import Derived.Laws.StructEq
import Derived.KernelRfl
namespace Go.Proofs.YtojjdckpbmjjdaaDoor
open Go.RowKit

def sameC (c d : Cl) : Bool := decide (c = d)
theorem sameC_eq (c d : Cl) : sameC c d = (decide (c.r = d.r) && decide (c.w = d.w) && styE c d) := by
  obtain ⟨r, w, a, b, e, f⟩ := c
  obtain ⟨r', w', a', b', e', f'⟩ := d
  unfold sameC styE
  rw [Bool.eq_iff_iff]
  simp [Cl.mk.injEq, and_assoc]
theorem styE_eq (c d : Cl) : styE c d = (c.fg == d.fg && c.bo == d.bo && c.un == d.un && c.iv == d.iv) := by
  unfold styE
  cases h : (c.fg == d.fg) <;> simp_all
theorem eqStyN (n : Nat) (c d : Cl) (w : World) : (Op.equalIn (n + 2) 35 (.agg #[.int .i64 c.fg, .bool c.bo, .bool c.un, .bool c.iv]) (.agg #[.int .i64 d.fg, .bool d.bo, .bool d.un, .bool d.iv])).run Tryd.prog w = .ok (styE c d) w := by
  have u3 := Tryd.underlying3
  have a3 := Tryd.isAgg3
  have z3 := Tryd.sizeOf3
  have u4 := Tryd.underlying4
  have a4 := Tryd.isAgg4
  have z4 := Tryd.sizeOf4
  have hS : Tryd.prog.underlying 35 = some (.struct (Tryd.prog.fieldsOf 35)) := by kernel_rfl
  have hp : Tryd.prog.stoodInHeld 35 = false := by kernel_rfl
  rw [run_equalIn_agg w (n + 1) 35 _ _ hS hp, styE_eq]
  simp only [Program.fieldsOf, Tryd.underlying35]
  go_simp
  by_cases h1 : c.fg = d.fg <;> by_cases h2 : c.bo = d.bo <;> by_cases h3 : c.un = d.un <;> by_cases h4 : c.iv = d.iv <;> simp [h1, h2, h3, h4]
theorem eqSty (c d : Cl) (w : World) : (Op.equalIn 9999 35 (.agg #[.int .i64 c.fg, .bool c.bo, .bool c.un, .bool c.iv]) (.agg #[.int .i64 d.fg, .bool d.bo, .bool d.un, .bool d.iv])).run Tryd.prog w = .ok (styE c d) w := eqStyN 9997 c d w
theorem eqSty1 (c d : Cl) (w : World) : (Op.equalIn 10000 35 (.agg #[.int .i64 c.fg, .bool c.bo, .bool c.un, .bool c.iv]) (.agg #[.int .i64 d.fg, .bool d.bo, .bool d.un, .bool d.iv])).run Tryd.prog w = .ok (styE c d) w := eqStyN 9998 c d w
theorem eqCell (c d : Cl) (w : World) : (Op.equalIn 10000 52 (clV c) (clV d)).run Tryd.prog w = .ok (sameC c d) w := by
  have u3 := Tryd.underlying3
  have a3 := Tryd.isAgg3
  have z3 := Tryd.sizeOf3
  have u1 := Tryd.underlying21
  have a1 := Tryd.isAgg21
  have z1 := Tryd.sizeOf21
  have a5 := Tryd.isAgg35
  have z5 := Tryd.sizeOf35
  have hS : Tryd.prog.underlying 52 = some (.struct (Tryd.prog.fieldsOf 52)) := by kernel_rfl
  have hp : Tryd.prog.stoodInHeld 52 = false := by kernel_rfl
  have hs := eqSty c d
  unfold clV
  rw [show (10000 : Nat) = 9999 + 1 from rfl, run_equalIn_agg w 9999 52 _ _ hS hp]
  simp only [Program.fieldsOf, Tryd.underlying52]
  go_simp
  rw [sameC_eq]
  by_cases h1 : c.r = d.r <;> by_cases h2 : c.w = d.w <;> cases h3 : styE c d <;> simp [h1, h2]
@[go_sem high] theorem neqCell (r wd fg : Int) (bo un iv : Bool) (r' wd' fg' : Int) (bo' un' iv' : Bool) (w : World) :
    (binOp .neq 52 (.agg #[.int .i32 r, .int .i64 wd, .int .i64 fg, .bool bo, .bool un, .bool iv]) (.agg #[.int .i32 r', .int .i64 wd', .int .i64 fg', .bool bo', .bool un', .bool iv'])).run Tryd.prog w = .ok (.bool (!sameC ⟨r, wd, fg, bo, un, iv⟩ ⟨r', wd', fg', bo', un', iv'⟩)) w := by
  have h := eqCell ⟨r, wd, fg, bo, un, iv⟩ ⟨r', wd', fg', bo', un', iv'⟩ w
  unfold clV at h
  rw [run_neq_struct, h]
  rfl
@[go_sem high] theorem neqStyle (fg : Int) (bo un iv : Bool) (fg' : Int) (bo' un' iv' : Bool) (w : World) :
    (binOp .neq 35 (.agg #[.int .i64 fg, .bool bo, .bool un, .bool iv]) (.agg #[.int .i64 fg', .bool bo', .bool un', .bool iv'])).run Tryd.prog w = .ok (.bool (!styE ⟨0, 0, fg, bo, un, iv⟩ ⟨0, 0, fg', bo', un', iv'⟩)) w := by
  have h := eqSty1 ⟨0, 0, fg, bo, un, iv⟩ ⟨0, 0, fg', bo', un', iv'⟩ w
  rw [run_neq_struct, h]
  rfl
@[go_sem] theorem guardCell (op : BinOp) (x y : Operand) (xs ys : Array Value) (w : World) : (eqGuard op 52 x y (.agg xs) (.agg ys)).run Tryd.prog w = .ok () w := run_eqGuard_agg w op _ x y xs ys (by kernel_rfl)
@[go_sem] theorem guardStyle (op : BinOp) (x y : Operand) (xs ys : Array Value) (w : World) : (eqGuard op 35 x y (.agg xs) (.agg ys)).run Tryd.prog w = .ok () w := run_eqGuard_agg w op _ x y xs ys (by kernel_rfl)
end Go.Proofs.YtojjdckpbmjjdaaDoor
