/- Opening the arguments of this seat's laws. -/
import Derived.Test.YtkjfgljalalffaaFrame
import Derived.Test.YtkjfgljalalffaaOf
namespace Go.Proofs.Ytkjfgljalalffaa
open Go.ChangeShapes Go.WideShapes Go.ChangeAt Go.RowKit
open Go.ChangeMaps (open_string)

section
variable {H : Type} {enc : TypeId × Value → H}
/-- A slice of strings that came in. -/
theorem open_strs {w : World} {t e : TypeId} {v : Value} {d : DataW H} {p : List MemPlace} (ht : Try.prog.underlying t = some (.slice e)) (he : Try.prog.underlying e = some .string) (hc : Try.prog.cellsOf e = 1)
    {b0 : Nat} (hv : Value.okWide Try.prog w .any b0 t v) (h : DataW.Trod enc Try.prog w 0 (fun _ => true) true t v d p) :
    ∃ zs : List ByteArray, Strs w.heap.size w v zs ∧ ((∃ sp, d = .slice (strs zs) sp) ∨ zs = []) ∧ ∀ s ∈ zs, s.size ≤ maxLen := by
  obtain ⟨a0, len, cap, rfl⟩ := okWide_slice ht hv
  obtain ⟨fuel, hf⟩ := h
  rcases open_strings ht he hc hf with ⟨hcs, hx⟩ | ⟨a, len', cap', ss, hcs, _, hl, hm, hz, hx, hcell, hss⟩
  · simp [Value.cells] at hcs
    obtain ⟨rfl, rfl, rfl⟩ := hcs
    exact ⟨[], ⟨none, 0, rfl, .inl rfl⟩, .inr rfl, by simp⟩
  · simp [Value.cells] at hcs
    obtain ⟨rfl, rfl, rfl⟩ := hcs
    simp only [if_true] at hz
    obtain ⟨hd, hp⟩ := Prod.mk.inj hx
    have hlen : (ss.take len).length = len := by rw [List.length_take]; omega
    refine ⟨ss.take len, ⟨some a, cap, by rw [hlen], ?_⟩, .inl ⟨_, hd⟩, fun s hs => hss s (List.mem_of_mem_take hs)⟩
    by_cases h0 : len = 0
    · left; rw [h0]; rfl
    · right
      obtain ⟨b, off, spot⟩ := a
      have c0 := hcell 0 (by omega)
      have hspot : spot = none := by simpa [Addr.add] using World.cell?_spot c0
      subst hspot
      refine ⟨b, off, rfl, ?_, fun j hj => ?_⟩
      · have := World.block_lt_of_cell? w _ c0
        simpa [Addr.add] using this
      · rw [hlen] at hj
        have := hcell j (by omega)
        have e : (⟨b, off, none⟩ : Addr).add j = ⟨b, off + j, none⟩ := by unfold Addr.add; split <;> simp_all
        rw [e] at this
        rw [this]
        simp [List.getD, List.getElem?_take, hj]
/-- An array of two strings that came in, by value. -/
theorem open_two {w : World} {t e : TypeId} {v : Value} {d : DataW H} {p : List MemPlace} (ht : Try.prog.underlying t = some (.array 2 e)) (he : Try.prog.underlying e = some .string) (hc : Try.prog.cellsOf e = 1) (hct : Try.prog.cellsOf t = 2)
    {b0 : Nat} (hv : Value.okWide Try.prog w .any b0 t v) (h : DataW.Trod enc Try.prog w 0 (fun _ => true) true t v d p) :
    ∃ s0 s1 : ByteArray, v = .agg #[.string s0, .string s1] ∧ s0.size ≤ maxLen ∧ s1.size ≤ maxLen := by
  obtain ⟨cs, rfl, hsz⟩ := okWide_array ht hv
  rw [hct] at hsz
  obtain ⟨l⟩ := cs
  match l, hsz with
  | [c0, c1], _ =>
    obtain ⟨fuel, hf⟩ := h
    obtain ⟨xs, m, _, _, _, hlen, hi⟩ := DataW.trod_array ht hf
    have h0 := hi 0 (by omega)
    have h1 := hi 1 (by omega)
    match xs, hlen with
    | [y0, y1], _ =>
      simp [Value.cells, hc] at h0 h1
      obtain ⟨s0, e0, _, m0⟩ := DataW.trod_string he h0
      obtain ⟨s1, e1, _, m1⟩ := DataW.trod_string he h1
      simp only [List.cons.injEq, and_true] at e0 e1
      exact ⟨s0, s1, by rw [e0, e1], m0, m1⟩
end

theorem cellsStr : Try.prog.cellsOf 9 = 1 := by kernel_rfl
theorem cellsTwo : Try.prog.cellsOf 23 = 2 := by kernel_rfl

theorem cellsByte : Try.prog.cellsOf 5 = 1 := by kernel_rfl
theorem cellsB2 : Try.prog.cellsOf 29 = 2 := by kernel_rfl
theorem bytesStr : Try.prog.bytesOf 9 = 16 := by kernel_rfl
theorem strs_len {H : Type} (zs : List ByteArray) : (strs (H := H) zs).length = zs.length := by simp [strs]


section
variable {H : Type} {enc : TypeId × Value → H}
/-- The bound on a slice of strings that came in. -/
theorem strs_bound {zs : List ByteArray} {d : DataW H} {ts : List TypeId} {ds : List (DataW H)} {j : Nat} (hd : (∃ sp, d = .slice (strs zs) sp) ∨ zs = []) (hsz : (DataW.weightsEach Try.prog ts ds).all (· ≤ reachBytes) = true) (ht : ts[j]? = some 22) (hj : ds[j]? = some d) : zs.length ≤ 17592186044415 := by
  rcases hd with ⟨sp, rfl⟩ | rfl
  · have := sized_slice hsz (j := j) (t := 22) (e := 9) (elems := strs zs) (spare := sp) ht hj Try.underlying22
    rw [bytesStr, strs_len] at this
    have := reachBytes_lt
    omega
  · simp
/-- An array of two bytes that came in, by value. -/
theorem open_bytes2 {w : World} {t e : TypeId} {v : Value} {d : DataW H} {p : List MemPlace} (ht : Try.prog.underlying t = some (.array 2 e)) (he : Try.prog.underlying e = some (.int .u8)) (hc : Try.prog.cellsOf e = 1) (hct : Try.prog.cellsOf t = 2)
    {b0 : Nat} (hv : Value.okWide Try.prog w .any b0 t v) (h : DataW.Trod enc Try.prog w 0 (fun _ => true) true t v d p) :
    ∃ a0 a1 : Int, v = .agg #[.int .u8 a0, .int .u8 a1] ∧ (0 ≤ a0 ∧ a0 ≤ 255) ∧ (0 ≤ a1 ∧ a1 ≤ 255) := by
  obtain ⟨cs, rfl, hsz⟩ := okWide_array ht hv
  rw [hct] at hsz
  obtain ⟨l⟩ := cs
  match l, hsz with
  | [c0, c1], _ =>
    obtain ⟨fuel, hf⟩ := h
    obtain ⟨xs, m, _, _, _, hlen, hi⟩ := DataW.trod_array ht hf
    have h0 := hi 0 (by omega)
    have h1 := hi 1 (by omega)
    match xs, hlen with
    | [y0, y1], _ =>
      simp [Value.cells, hc] at h0 h1
      obtain ⟨s0, e0, _, m0⟩ := DataW.trod_int he h0
      obtain ⟨s1, e1, _, m1⟩ := DataW.trod_int he h1
      simp only [List.cons.injEq, and_true] at e0 e1
      refine ⟨s0, s1, by rw [e0, e1], ?_, ?_⟩
      · simpa [Lit.wf, IntKind.min, IntKind.max, IntKind.signed, IntKind.bits] using m0
      · simpa [Lit.wf, IntKind.min, IntKind.max, IntKind.signed, IntKind.bits] using m1
end
end Go.Proofs.Ytkjfgljalalffaa
