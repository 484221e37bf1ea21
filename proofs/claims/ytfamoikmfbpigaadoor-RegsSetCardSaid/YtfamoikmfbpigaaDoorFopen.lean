/- A node that comes in. -/
import Derived.Test.YtfamoikmfbpigaaDoorOpenrow
import Derived.Test.YtfamoikmfbpigaaDoorFsame
import Derived.Laws.IdiomArrays
import Derived.OpenShut
namespace Go.Proofs.YtfamoikmfbpigaaDoor
open Go.ChangeShapes Go.WideShapes Go.ChangeAt Go.RowKit Go.Lib

theorem cellsFN : Tryd.prog.cellsOf 27 = 6 := by kernel_rfl
theorem cellsFI : Tryd.prog.cellsOf 3 = 1 := by kernel_rfl
theorem cellsFU : Tryd.prog.cellsOf 23 = 1 := by kernel_rfl
theorem cellsFA : Tryd.prog.cellsOf 24 = 4 := by kernel_rfl
theorem cellsFS : Tryd.prog.cellsOf 25 = 1 := by kernel_rfl
theorem wfU {n : Int} (h : (Lit.int .u64 n).wf = true) : ∃ m : Nat, n = (m : Int) ∧ m < 18446744073709551616 := by
  simp [Lit.wf] at h
  have h1 : (0 : Int) ≤ n := h.1
  have h2 : n ≤ 18446744073709551615 := h.2
  exact ⟨n.toNat, by omega, by omega⟩
section
variable {H : Type} {enc : TypeId × Value → H}
theorem rows_less {P : Program} {α : Type} {w : World} {t e : TypeId} {cs : List Value} {x : DataW H × List MemPlace} {fuel : Nat} (k : Nat) (hk : 0 < k) (R : α → List Value → Prop)
    (ht : P.underlying t = some (.slice e)) (hc : P.cellsOf e = k)
    (hel : ∀ (n : Nat) (cs : List Value) (x : DataW H × List MemPlace), n < fuel → cs.length = k → DataW.trod enc P w 0 (fun _ => true) true n e cs = some x → ∃ a : α, R a cs)
    (hf : DataW.trod enc P w 0 (fun _ => true) true fuel t cs = some x) :
    ∃ (A : Option Addr) (cap : Nat) (l : List α), cs = [.slice A l.length cap] ∧ l.length ≤ cap ∧ cap ≤ maxLen ∧
      ∀ j y, l[j]? = some y → ∃ b o cy, A = some ⟨b, o, none⟩ ∧ b < w.heap.size ∧ cy.length = k ∧ R y cy ∧ ∀ i u, cy[i]? = some u → w.cell? ⟨b, o + j * k + i, none⟩ = some u := by
  rcases DataW.trod_slice ht hf with ⟨hcs, _⟩ | ⟨a, len, cap, elems, rest, n, rfl, hcs, _, _, hlen, hcap, hel2, hi, _, _⟩
  · exact ⟨none, 0, [], by rw [hcs]; rfl, Nat.le_refl _, by unfold maxLen; omega, fun j x h => by simp at h⟩
  · rw [hc] at hi
    obtain ⟨l, hl, hp⟩ := build_list (fun i (y : α) => ∃ b o cy, some a = some (⟨b, o, none⟩ : Addr) ∧ b < w.heap.size ∧ cy.length = k ∧ R y cy ∧ ∀ q u, cy[q]? = some u → w.cell? ⟨b, o + i * k + q, none⟩ = some u) len (fun i hlt => by
      have h1 := hi i hlt
      rw [List.getElem?_eq_getElem (show i < elems.length by omega)] at h1
      obtain ⟨cs', h2, h3⟩ := Option.bind_eq_some_iff.1 h1
      obtain ⟨_, h4, h5⟩ := World.cells?_some h2
      obtain ⟨y, hy⟩ := hel n cs' _ (Nat.lt_succ_self n) h4 h3
      obtain ⟨b, off, spot⟩ := a
      have hspot : spot = none := by
        have g1 := hi 0 (by omega)
        rw [List.getElem?_eq_getElem (show 0 < elems.length by omega)] at g1
        obtain ⟨cs0, g2, _⟩ := Option.bind_eq_some_iff.1 g1
        obtain ⟨_, g4, g5⟩ := World.cells?_some g2
        have g6 := g5 0 hk
        rw [List.getElem?_eq_getElem (by omega)] at g6
        simpa [Addr.add] using World.cell?_spot g6
      subst hspot
      have hc0 := h5 0 hk
      rw [List.getElem?_eq_getElem (by omega)] at hc0
      simp only [Addr.add_lit] at hc0 h5
      refine ⟨y, b, off, cs', rfl, World.block_lt_of_cell? _ _ hc0, h4, hy, fun q u hu => ?_⟩
      rw [h5 q (by have := (List.getElem?_eq_some_iff.1 hu).1; omega)]
      exact hu)
    exact ⟨some a, cap, l, by rw [hcs, hl], by omega, hcap, fun j x hx => hp j x hx⟩
set_option maxRecDepth 100000 in
theorem node_of_trod {w : World} : ∀ (fuel f : Nat) (cs : List Value) (x : DataW H × List MemPlace), f < fuel → cs.length = 6 → DataW.trod enc Tryd.prog w 0 (fun _ => true) true f 27 cs = some x → ∃ n : Nd, NdX (fun _ => True) w n cs
  | 0, _, _, _, h, _, _ => absurd h (by omega)
  | fuel + 1, f, cs, x, hf, hl, h => by
    obtain ⟨xs, n, e, hx, -, hlen, hi⟩ := DataW.trod_struct Tryd.underlying27 h
    match cs, hl with
    | [c0, c1, c2, c3, c4, c5], _ =>
      match xs, hlen with
      | [y0, y1, y2], _ =>
        have h0 := hi 0 _ rfl
        have h1 := hi 1 _ rfl
        have h2 := hi 2 _ rfl
        simp [cellsFI, cellsFA, cellsFS] at h0 h1 h2
        obtain ⟨a, e0, _, _⟩ := DataW.trod_int Tryd.underlying3 h0
        obtain ⟨z0, z1, z2, z3, m, -, g0, g1, g2, g3⟩ := trod_array4 Tryd.underlying24 cellsFU h1
        obtain ⟨a0, k0, _, w0⟩ := DataW.trod_int Tryd.underlying23 g0
        obtain ⟨a1, k1, _, w1⟩ := DataW.trod_int Tryd.underlying23 g1
        obtain ⟨a2, k2, _, w2⟩ := DataW.trod_int Tryd.underlying23 g2
        obtain ⟨a3, k3, _, w3⟩ := DataW.trod_int Tryd.underlying23 g3
        obtain ⟨b0, rfl, v0⟩ := wfU w0
        obtain ⟨b1, rfl, v1⟩ := wfU w1
        obtain ⟨b2, rfl, v2⟩ := wfU w2
        obtain ⟨b3, rfl, v3⟩ := wfU w3
        simp only [List.cons.injEq, and_true] at e0 k0 k1 k2 k3
        subst e0 k0 k1 k2 k3
        obtain ⟨A, cap, l, e5, hc1, hc2, hr⟩ := rows_less (α := Nd) (R := fun n cy => NdX (fun _ => True) w n cy) 6 (by omega) Tryd.underlying25 cellsFN (fun n' cs' x' hn' hl' hx' => node_of_trod fuel n' cs' x' (by omega) hl' hx') h2
        simp only [List.cons.injEq, and_true] at e5
        subst e5
        have hk : NdsX (fun _ => True) w l A 0 := by
          cases hA : A with
          | none =>
            cases l with
            | nil => unfold NdsX; trivial
            | cons y l =>
              obtain ⟨b, o, cy, e, _⟩ := hr 0 y rfl
              rw [hA] at e; cases e
          | some ad =>
            cases l with
            | nil => unfold NdsX; trivial
            | cons y l' =>
              obtain ⟨b, o, cy, e, hb, -, -, -⟩ := hr 0 y rfl
              rw [← hA, e]
              refine NdsX.mk ⟨trivial, hb⟩ _ 0 fun i x hx => ?_
              obtain ⟨b', o', cy', e', hb', hl', hn', hc'⟩ := hr i x hx
              rw [e] at e'
              injection e' with e'
              injection e' with eb eo
              subst eb eo
              exact ⟨cy', hl', fun q u hu => by rw [Nat.zero_add]; exact hc' q u hu, hn'⟩
        refine ⟨.mk a [b0, b1, b2, b3] l, ?_⟩
        unfold NdX
        refine ⟨A, cap, rfl, ⟨rfl, fun x hx => ?_⟩, hc1, hc2, hk⟩
        simp at hx
        omega
set_option maxRecDepth 100000 in
theorem open_node {w : World} {v : Value} {d : DataW H} {p : List MemPlace} {b0 : Nat} (hv : Value.okWide Tryd.prog w .any b0 27 v) (h : DataW.Trod enc Tryd.prog w 0 (fun _ => true) true 27 v d p) :
    ∃ (n : Nd) (cs : List Value), v = .agg cs.toArray ∧ NdX (fun _ => True) w n cs := by
  obtain ⟨cs, rfl, hs⟩ := okWide_structP Tryd.underlying27 hv
  obtain ⟨fuel, hf⟩ := h
  rw [cellsFN] at hs
  obtain ⟨l⟩ := cs
  obtain ⟨n, hn⟩ := node_of_trod (fuel + 1) fuel l _ (by omega) (by simpa using hs) (by simpa [Value.cells] using hf)
  exact ⟨n, l, rfl, hn⟩
end
end Go.Proofs.YtfamoikmfbpigaaDoor
