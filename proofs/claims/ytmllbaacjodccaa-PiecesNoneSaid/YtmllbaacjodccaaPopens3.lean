/- Opening an Act that came in, by value. -/
import Derived.Test.YtmllbaacjodccaaFrame
import Derived.Test.YtmllbaacjodccaaPput
namespace Go.Proofs.Ytmllbaacjodccaa
open Go.ChangeShapes Go.WideShapes Go.ChangeAt Go.RowKit
open Go.ChangeMaps (open_string)

theorem cellsAct : Try.prog.cellsOf 45 = 4 := by kernel_rfl
theorem cellsActB : Try.prog.cellsOf 5 = 1 := by kernel_rfl
theorem cellsActI : Try.prog.cellsOf 3 = 1 := by kernel_rfl
theorem cellsActS : Try.prog.cellsOf 9 = 1 := by kernel_rfl
theorem okWide_structP {P : Program} {w : World} {r : Reach} {b : Nat} {t : TypeId} {fs : Array Field} {v : Value} (ht : P.underlying t = some (.struct fs)) (h : Value.okWide P w r b t v) : ∃ cs, v = .agg cs ∧ cs.size = P.cellsOf t := by
  unfold Value.okWide at h
  rw [ht] at h
  obtain ⟨cs, e, hs, _⟩ := h
  exact ⟨cs, e, hs⟩
section
variable {H : Type} {enc : TypeId × Value → H}
theorem open_act {w : World} {v : Value} {d : DataW H} {p : List MemPlace} {b0 : Nat} (hv : Value.okWide Try.prog w .any b0 45 v) (h : DataW.Trod enc Try.prog w 0 (fun _ => true) true 45 v d p) :
    ∃ (k f t : Int) (s : ByteArray), v = .agg #[.int .u8 k, .int .i64 f, .int .i64 t, .string s] ∧ s.size ≤ maxLen := by
  obtain ⟨cs, rfl, hsz⟩ := okWide_structP Try.underlying45 hv
  rw [cellsAct] at hsz
  obtain ⟨l⟩ := cs
  match l, hsz with
  | [c0, c1, c2, c3], _ =>
    obtain ⟨fuel, hf⟩ := h
    obtain ⟨xs, n, _, _, _, hlen, hi⟩ := DataW.trod_struct Try.underlying45 hf
    match xs, hlen with
    | [y0, y1, y2, y3], _ =>
      have h0 := hi 0 _ rfl
      have h1 := hi 1 _ rfl
      have h2 := hi 2 _ rfl
      have h3 := hi 3 _ rfl
      simp [Value.cells, cellsActB, cellsActI, cellsActS] at h0 h1 h2 h3
      obtain ⟨k, e0, _, _⟩ := DataW.trod_int Try.underlying5 h0
      obtain ⟨f, e1, _, _⟩ := DataW.trod_int Try.underlying3 h1
      obtain ⟨t, e2, _, _⟩ := DataW.trod_int Try.underlying3 h2
      obtain ⟨s, e3, _, m3⟩ := DataW.trod_string Try.underlying9 h3
      simp only [List.cons.injEq, and_true] at e0 e1 e2 e3
      exact ⟨k, f, t, s, by rw [e0, e1, e2, e3], m3⟩
end
end Go.Proofs.Ytmllbaacjodccaa
