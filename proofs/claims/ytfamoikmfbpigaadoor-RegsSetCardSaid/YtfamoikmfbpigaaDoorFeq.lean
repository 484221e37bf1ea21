/- Two arrays of four words, compared. -/
import Derived.Test.YtfamoikmfbpigaaDoorFhas
import Derived.Laws.StructEq
import Derived.KernelRfl
namespace Go.Proofs.YtfamoikmfbpigaaDoor
open Go.RowKit

def eq4 (x0 x1 x2 x3 y0 y1 y2 y3 : Int) : Bool := x0 == y0 && x1 == y1 && x2 == y2 && x3 == y3
theorem eqU4N (n : Nat) (x0 x1 x2 x3 y0 y1 y2 y3 : Int) (w : World) : (Op.equalIn (n + 2) 24 (.agg #[.int .u64 x0, .int .u64 x1, .int .u64 x2, .int .u64 x3]) (.agg #[.int .u64 y0, .int .u64 y1, .int .u64 y2, .int .u64 y3])).run Tryd.prog w = .ok (eq4 x0 x1 x2 x3 y0 y1 y2 y3) w := by
  have u3 := Tryd.underlying23
  have a3 := Tryd.isAgg23
  have z3 := Tryd.sizeOf23
  have hi := fun a b => run_equalIn_int (P := Tryd.prog) w n 23 .u64 .u64 a b u3
  unfold Op.equalIn
  simp only [Sem.run_bind, run_underlying Tryd.underlying24, Result.andThen_ok]
  simp [z3, Std.Legacy.Range.forIn_eq_forIn_range', List.range'_succ, go_sem, a3, hi]
  unfold eq4
  by_cases h0 : x0 = y0 <;> by_cases h1 : x1 = y1 <;> by_cases h2 : x2 = y2 <;> by_cases h3 : x3 = y3 <;> simp [h0, h1, h2, h3]
@[go_sem high] theorem neqU4 (x0 x1 x2 x3 y0 y1 y2 y3 : Int) (w : World) : (binOp .neq 24 (.agg #[.int .u64 x0, .int .u64 x1, .int .u64 x2, .int .u64 x3]) (.agg #[.int .u64 y0, .int .u64 y1, .int .u64 y2, .int .u64 y3])).run Tryd.prog w = .ok (.bool (!eq4 x0 x1 x2 x3 y0 y1 y2 y3)) w := by
  have h := eqU4N 9998 x0 x1 x2 x3 y0 y1 y2 y3 w
  rw [run_neq_struct, h]
  rfl
theorem eq4_same (x0 x1 x2 x3 : Int) : eq4 x0 x1 x2 x3 x0 x1 x2 x3 = true := by simp [eq4]
theorem eq4_ne {x0 x1 x2 x3 y0 y1 y2 y3 : Nat} (h : [x0, x1, x2, x3] ≠ [y0, y1, y2, y3]) : eq4 x0 x1 x2 x3 y0 y1 y2 y3 = false := by
  cases hh : eq4 x0 x1 x2 x3 y0 y1 y2 y3 with
  | false => rfl
  | true =>
    exfalso
    apply h
    simp [eq4] at hh
    simp; omega
end Go.Proofs.YtfamoikmfbpigaaDoor
