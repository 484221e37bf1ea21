/- Opening a slice whose elements are laid in k cells each, whatever they are. -/
import Derived.Test.YtfamoikmfbpigaaDoorFrame
namespace Go.Proofs.YtfamoikmfbpigaaDoor
open Go.ChangeShapes Go.WideShapes Go.ChangeAt Go.RowKit

theorem okWide_structP {P : Program} {w : World} {r : Reach} {b : Nat} {t : TypeId} {fs : Array Field} {v : Value} (ht : P.underlying t = some (.struct fs)) (h : Value.okWide P w r b t v) : ∃ cs, v = .agg cs ∧ cs.size = P.cellsOf t := by
  unfold Value.okWide at h
  rw [ht] at h
  obtain ⟨cs, e, hs, _⟩ := h
  exact ⟨cs, e, hs⟩
theorem wfB {n : Int} (h : (Lit.int .u8 n).wf = true) : 0 ≤ n ∧ n ≤ 255 := by
  simp [Lit.wf] at h
  exact h
theorem wfI {n : Int} (h : (Lit.int .i64 n).wf = true) : -9223372036854775808 ≤ n ∧ n ≤ 9223372036854775807 := by
  simp [Lit.wf] at h
  exact h
theorem wfR {n : Int} (h : (Lit.int .i32 n).wf = true) : -2147483648 ≤ n ∧ n ≤ 2147483647 := by
  simp [Lit.wf] at h
  exact h

/-- Where the elements of a row lie, each in k cells. -/
def RowOf {α : Type} (W : World) (k : Nat) (f : α → List Value) (A : Option Addr) (l : List α) : Prop :=
  ∀ j x, l[j]? = some x → ∃ b o, A = some ⟨b, o, none⟩ ∧ b < W.heap.size ∧ ∀ i u, (f x)[i]? = some u → W.cell? ⟨b, o + j * k + i, none⟩ = some u
theorem RowOf.below {α : Type} {A W : World} {k : Nat} {f : α → List Value} {a : Option Addr} {l : List α} (h : RowOf A k f a l) (hb : Below A.heap.size A W) : RowOf W k f a l := by
  intro j x hx
  obtain ⟨b, o, e, hlt, hc⟩ := h j x hx
  exact ⟨b, o, e, Nat.lt_of_lt_of_le hlt hb.size, fun i u hu => (hb.cell (p := ⟨b, o + j * k + i, none⟩) hlt).trans (hc i u hu)⟩

theorem build_list {α : Type} (p : Nat → α → Prop) : ∀ n, (∀ i, i < n → ∃ a, p i a) → ∃ l : List α, l.length = n ∧ ∀ i a, l[i]? = some a → p i a
  | 0, _ => ⟨[], rfl, fun i a h => by simp at h⟩
  | n + 1, h => by
    obtain ⟨l, hl, hp⟩ := build_list p n (fun i hi => h i (by omega))
    obtain ⟨a, ha⟩ := h n (by omega)
    refine ⟨l ++ [a], by simp [hl], fun i b hb => ?_⟩
    by_cases hi : i < n
    · rw [List.getElem?_append_left (by omega)] at hb
      exact hp i b hb
    · have := (List.getElem?_eq_some_iff.1 hb).1
      simp [hl] at this
      obtain rfl : i = n := by omega
      rw [List.getElem?_append_right (by omega), hl, Nat.sub_self] at hb
      obtain rfl : a = b := by simpa using hb
      exact ha

section
variable {H : Type} {enc : TypeId × Value → H}
theorem rows_of_cells {P : Program} {α : Type} {w : World} {t e : TypeId} {cs : List Value} {x : DataW H × List MemPlace} {fuel : Nat} (k : Nat) (hk : 0 < k) (f : α → List Value) (R : α → Prop)
    (ht : P.underlying t = some (.slice e)) (hc : P.cellsOf e = k)
    (hel : ∀ (n : Nat) (cs : List Value) (x : DataW H × List MemPlace), cs.length = k → DataW.trod enc P w 0 (fun _ => true) true n e cs = some x → ∃ a : α, cs = f a ∧ R a)
    (hf : DataW.trod enc P w 0 (fun _ => true) true fuel t cs = some x) :
    ∃ (A : Option Addr) (cap : Nat) (l : List α), cs = [.slice A l.length cap] ∧ l.length ≤ cap ∧ cap ≤ maxLen ∧ (∀ x ∈ l, R x) ∧ (A = none → cap = 0) ∧ RowOf w k f A l := by
  rcases DataW.trod_slice ht hf with ⟨hcs, _⟩ | ⟨a, len, cap, elems, rest, n, rfl, hcs, _, _, hlen, hcap, hel2, hi, _, _⟩
  · exact ⟨none, 0, [], by rw [hcs]; rfl, Nat.le_refl _, by unfold maxLen; omega, fun x h => by simp at h, fun _ => rfl, fun j x h => by simp at h⟩
  · rw [hc] at hi
    obtain ⟨l, hl, hp⟩ := build_list (fun i (y : α) => R y ∧ ∃ b o, some a = some (⟨b, o, none⟩ : Addr) ∧ b < w.heap.size ∧ ∀ q u, (f y)[q]? = some u → w.cell? ⟨b, o + i * k + q, none⟩ = some u) len (fun i hlt => by
      have h1 := hi i hlt
      rw [List.getElem?_eq_getElem (show i < elems.length by omega)] at h1
      obtain ⟨cs', h2, h3⟩ := Option.bind_eq_some_iff.1 h1
      obtain ⟨_, h4, h5⟩ := World.cells?_some h2
      obtain ⟨y, rfl, hy⟩ := hel n cs' _ h4 h3
      obtain ⟨b, off, spot⟩ := a
      have hspot : spot = none := by
        have g1 := hi 0 (by omega)
        rw [List.getElem?_eq_getElem (show 0 < elems.length by omega)] at g1
        obtain ⟨cs0, g2, _⟩ := Option.bind_eq_some_iff.1 g1
        obtain ⟨_, g4, g5⟩ := World.cells?_some g2
        have g6 := g5 0 hk
        rw [List.getElem?_eq_getElem (by omega)] at g6
        simpa [Addr.add] using World.cell?_spot g6
      subst hspot
      have hc0 := h5 0 hk
      rw [List.getElem?_eq_getElem (by omega)] at hc0
      simp only [Addr.add_lit] at hc0 h5
      refine ⟨y, hy, b, off, rfl, World.block_lt_of_cell? _ _ hc0, fun q u hu => ?_⟩
      rw [h5 q (by have := (List.getElem?_eq_some_iff.1 hu).1; omega)]
      exact hu)
    refine ⟨some a, cap, l, by rw [hcs, hl], by omega, hcap, fun x hx => ?_, (fun e => by cases e), fun j x hx => (hp j x hx).2⟩
    obtain ⟨i, hlt, rfl⟩ := List.getElem_of_mem hx
    exact (hp i _ (List.getElem?_eq_getElem hlt)).1
theorem open_rows {P : Program} {α : Type} {w : World} {t e : TypeId} {v : Value} {d : DataW H} {p : List MemPlace} {b0 : Nat} (k : Nat) (hk : 0 < k) (f : α → List Value) (R : α → Prop)
    (ht : P.underlying t = some (.slice e)) (hc : P.cellsOf e = k)
    (hel : ∀ (n : Nat) (cs : List Value) (x : DataW H × List MemPlace), cs.length = k → DataW.trod enc P w 0 (fun _ => true) true n e cs = some x → ∃ a : α, cs = f a ∧ R a)
    (hv : Value.okWide P w .any b0 t v) (h : DataW.Trod enc P w 0 (fun _ => true) true t v d p) :
    ∃ (A : Option Addr) (cap : Nat) (l : List α), v = .slice A l.length cap ∧ l.length ≤ cap ∧ cap ≤ maxLen ∧ (∀ x ∈ l, R x) ∧ (A = none → cap = 0) ∧ RowOf w k f A l := by
  obtain ⟨a0, len, cap, rfl⟩ := okWide_slice ht hv
  obtain ⟨fuel, hf⟩ := h
  obtain ⟨A, cap', l, e1, r⟩ := rows_of_cells k hk f R ht hc hel hf
  simp [Value.cells] at e1
  obtain ⟨rfl, rfl, rfl⟩ := e1
  exact ⟨_, _, l, rfl, r⟩
end
end Go.Proofs.YtfamoikmfbpigaaDoor
