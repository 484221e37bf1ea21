/- Opening the arguments of this seat's laws. -/
import Derived.Test.YtgpcpfohfoeclaaFrame
import Derived.Test.YtgpcpfohfoeclaaUhist
namespace Go.Proofs.Ytgpcpfohfoeclaa
open Go.ChangeShapes Go.WideShapes Go.ChangeAt Go.RowKit
open Go.ChangeMaps (open_string)

section
variable {H : Type} {enc : TypeId × Value → H}
/-- A slice of bytes that came in. -/
theorem open_u8s {w : World} {t e : TypeId} {v : Value} {d : DataW H} {p : List MemPlace} (ht : Try.prog.underlying t = some (.slice e)) (he : Try.prog.underlying e = some (.int .u8)) (hc : Try.prog.cellsOf e = 1)
    {b0 : Nat} (hv : Value.okWide Try.prog w .any b0 t v) (h : DataW.Trod enc Try.prog w 0 (fun _ => true) true t v d p) : ∃ zs : List Int, Nums w v zs := by
  obtain ⟨a0, len, cap, rfl⟩ := okWide_slice ht hv
  obtain ⟨fuel, hf⟩ := h
  rcases open_ints ht he hc hf with ⟨hcs, hx⟩ | ⟨a, len', cap', zs, hcs, _, hl, hm, hz, hx, hcell, hwz⟩
  · simp [Value.cells] at hcs
    obtain ⟨rfl, rfl, rfl⟩ := hcs
    exact ⟨[], none, 0, rfl, by simp, fun j hj => by simp at hj⟩
  · simp [Value.cells] at hcs
    obtain ⟨rfl, rfl, rfl⟩ := hcs
    simp only [if_true] at hz
    have hlen : (zs.take len).length = len := by rw [List.length_take]; omega
    refine ⟨zs.take len, some a, cap, by rw [hlen], by omega, fun j hj => ?_⟩
    rw [hlen] at hj
    have h1 := hcell j (by omega)
    obtain ⟨b, off, spot⟩ := a
    have hspot : spot = none := by simpa [Addr.add] using World.cell?_spot (hcell 0 (by omega))
    subst hspot
    rw [Addr.add_lit] at h1
    have e1 : (zs.take len).getD j 0 = zs.getD j 0 := by simp [List.getD, List.getElem?_take, hj]
    have hr := range_u8 hwz j
    rw [← List.getD_eq_getElem?_getD] at hr
    exact ⟨b, off, rfl, by rw [e1]; exact h1, by rw [e1]; omega, by rw [e1]; omega⟩
end
theorem cellsU8 : Try.prog.cellsOf 5 = 1 := by kernel_rfl
end Go.Proofs.Ytgpcpfohfoeclaa
