/- Opening a slice of strings that came in. -/
import Derived.Test.YtmllbaacjodccaaPopens
import Derived.Test.YtmllbaacjodccaaPslices
namespace Go.Proofs.Ytmllbaacjodccaa
open Go.ChangeShapes Go.WideShapes Go.ChangeAt Go.RowKit
open Go.ChangeMaps (open_string)

section
variable {H : Type} {enc : TypeId × Value → H}
theorem open_lstrs {w : World} {t e : TypeId} {v : Value} {d : DataW H} {p : List MemPlace} (ht : Try.prog.underlying t = some (.slice e)) (he : Try.prog.underlying e = some .string) (hc : Try.prog.cellsOf e = 1)
    {b0 : Nat} (hv : Value.okWide Try.prog w .any b0 t v) (h : DataW.Trod enc Try.prog w 0 (fun _ => true) true t v d p) : ∃ zs : List ByteArray, LStrs w v zs := by
  obtain ⟨a0, len, cap, rfl⟩ := okWide_slice ht hv
  obtain ⟨fuel, hf⟩ := h
  rcases open_strings ht he hc hf with ⟨hcs, hx⟩ | ⟨a, len', cap', ss, hcs, _, hl, hm, hz, hx, hcell, hss⟩
  · simp [Value.cells] at hcs
    obtain ⟨rfl, rfl, rfl⟩ := hcs
    exact ⟨[], none, 0, rfl, by simp, fun j hj => by simp at hj⟩
  · simp [Value.cells] at hcs
    obtain ⟨rfl, rfl, rfl⟩ := hcs
    simp only [if_true] at hz
    have hlen : (ss.take len).length = len := by rw [List.length_take]; omega
    refine ⟨ss.take len, some a, cap, by rw [hlen], by omega, fun j hj => ?_⟩
    have hm := hss ((ss.take len).getD j ByteArray.empty) (by
      rw [List.getD_eq_getElem?_getD, List.getElem?_eq_getElem hj]
      exact List.mem_of_mem_take (List.getElem_mem hj))
    rw [hlen] at hj
    have h1 := hcell j (by omega)
    obtain ⟨b, off, spot⟩ := a
    have hspot : spot = none := by simpa [Addr.add] using World.cell?_spot (hcell 0 (by omega))
    subst hspot
    rw [Addr.add_lit] at h1
    refine ⟨b, off, rfl, ?_, hm⟩
    rw [h1]
    simp [List.getD, List.getElem?_take, hj]
end
theorem cellsStrP : Try.prog.cellsOf 9 = 1 := by kernel_rfl
end Go.Proofs.Ytmllbaacjodccaa
