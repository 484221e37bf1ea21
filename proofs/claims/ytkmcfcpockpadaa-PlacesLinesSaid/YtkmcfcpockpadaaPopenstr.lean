/- Opening a slice of strings that came in. -/
import Derived.Test.YtkmcfcpockpadaaOpenrow
import Derived.Test.YtkmcfcpockpadaaPlines
namespace Go.Proofs.Ytkmcfcpockpadaa
open Go.ChangeShapes Go.WideShapes Go.ChangeAt Go.RowKit

theorem cellsStr : Try.prog.cellsOf 9 = 1 := by kernel_rfl
section
variable {H : Type} {enc : TypeId × Value → H}
theorem open_strrow {w : World} {v : Value} {d : DataW H} {p : List MemPlace} {b0 : Nat} (hv : Value.okWide Try.prog w .any b0 33 v) (h : DataW.Trod enc Try.prog w 0 (fun _ => true) true 33 v d p) : ∃ l, StrRow w v l := by
  obtain ⟨A, cap, l, rfl, h1, h2, h3, _, h4⟩ := open_rows (P := Try.prog) 1 (by omega) (fun (x : ByteArray) => [.string x]) (fun x => x.size ≤ maxLen) Try.underlying33 cellsStr (fun n cs x hl hf => by
    obtain ⟨s, e, _, m⟩ := DataW.trod_string Try.underlying9 hf
    exact ⟨s, e, m⟩) hv h
  refine ⟨l, A, cap, rfl, by omega, h3, fun j x hx => ?_⟩
  obtain ⟨b, o, e, hb, hc⟩ := h4 j x hx
  have := hc 0 _ rfl
  rw [Nat.mul_one, Nat.add_zero] at this
  exact ⟨b, o, e, hb, this⟩
end
end Go.Proofs.Ytkmcfcpockpadaa
