/- Appending one value to a row of its own, and what texts are behind that. -/
import Derived.Test.YtmllbaacjodccaaQput
import Derived.ArgAppend
namespace Go.Proofs.Ytmllbaacjodccaa
open Go.RowKit

/-- The block that a slice's row lies in is the one before, or a new one. -/
def Moved (W : World) (v v' : Value) : Prop := ∀ k, v'.ownBlock = some k → v.ownBlock = some k ∨ W.heap.size ≤ k
theorem own_app1 (W : World) (B : Nat) (hB : B ≤ W.heap.size) (t e ty : TypeId) (ht : Try.prog.underlying t = some (.slice e)) (z : Value) (bytes : Nat) (hinfo : (Try.prog.info? e).map (fun i => (i.zero, i.size, i.bytes)) = some (some z, 1, bytes)) (hzs : z.cells.size = 1) (hby : bytes ≤ 16)
    (v : Value) (n : Nat) (xs : List Value) (hown : W.ownsRow B e 1 v n xs) (u : Value) (hu : u.oneCell' = true) (a : Addr) (c : Nat) (hc : W.cell? a = some u) (hn : n ≤ 1000) :
    ∃ v' w', (Builtin.append_ #[t, t] ty #[v, .slice (some a) 1 c]).run Try.prog W = .ok v' w' ∧ w'.ownsRow B e 1 v' (n + 1) (xs ++ [u]) ∧ W.grownBy w' v.ownBlock ∧ Moved W v v' := by
  obtain ⟨i0, hi, hz0, hz1, hz2⟩ := info_parts hinfo
  have hnews : ∀ j x, ([u] : List Value)[j]? = some x → W.cell? (a.add j) = some x := by
    intro j x hx
    have hj : j = 0 := by have := (List.getElem?_eq_some_iff.1 hx).1; simpa using this
    subst hj
    have ha : a.add 0 = a := by
      obtain ⟨b, o, sp⟩ := a
      have hs : sp = none := by simpa using World.cell?_spot hc
      subst hs
      rw [Addr.add_lit, Nat.add_zero]
    rw [ha, hc]
    simpa using hx
  have h1s : ∀ x ∈ ([u] : List Value), x.oneCell' = true := by intro x hx; rw [List.mem_singleton.1 hx]; exact hu
  have hb2 : (n + 1) * bytes ≤ 140737488355328 := Nat.le_trans (Nat.mul_le_mul (show n + 1 ≤ 1001 by omega) hby) (by omega)
  obtain ⟨v', w', hr, h2, h3, _⟩ := run_append_own (P := Try.prog) W B t ty e i0 z 1 bytes ht hi hz0 hz1 hz2 hzs (by decide) v n xs hown a 1 c [u] rfl hnews h1s (by unfold maxLen; omega) hb2 hB
  refine ⟨v', w', hr, h2, h3, fun k hk => ?_⟩
  rcases hown.2 with ⟨rfl, rfl⟩ | ⟨g, cap, cur, rfl, hg, hh, hl, hm, hs, htk⟩
  · obtain ⟨v1, w1, hr1, g1, _⟩ := run_append_own (P := Try.prog) W W.heap.size t ty e i0 z 1 bytes ht hi hz0 hz1 hz2 hzs (by decide) (.slice none 0 0) 0 [] (World.ownsRow_nil _ _ _ _) a 1 c [u] rfl hnews h1s (by unfold maxLen; omega) (by simpa using hb2) (Nat.le_refl _)
    rw [hr1] at hr
    injection hr with e1 e2
    subst e1 e2
    exact .inr (g1.lt k hk).1
  · have hxl : xs.length = n := by rw [hown.1, Nat.mul_one]
    by_cases hrm : n + 1 ≤ cap
    · have hrun := run_append_room_cells (P := Try.prog) W t ty e i0 ht hi g 0 n cap a 1 c [u] (by rw [hz1]; rfl) hnews h1s hrm
        (fun j hj => by
          obtain rfl : j = 0 := by simpa using hj
          rw [hz1, World.cell?, hh]
          simp [show n < cur.size by omega]) (fun j hj => hown.frozenAt _)
      rw [hrun] at hr
      injection hr with e1 e2
      subst e1
      exact .inl hk
    · obtain ⟨v1, w1, hr1, g1, _⟩ := run_append_arg_grows (P := Try.prog) W t ty e i0 z 1 bytes ht hi hz0 hz1 hz2 hzs (by decide) ⟨g, 0, none⟩ n cap xs hown.1 (fun j x hx => by
        have hj : j < xs.length := (List.getElem?_eq_some_iff.1 hx).1
        rw [Addr.add_lit, Nat.zero_add, hown.cellAt j (by omega)]
        exact hx) a 1 c [u] rfl hnews (by omega) (by unfold maxLen; omega) hb2
      rw [hr1] at hr
      injection hr with e1 e2
      subst e1 e2
      exact .inr (g1.lt k hk).1
/-- At the operation. -/
theorem wpList_own1 {ops : Array Oper} {rest : List Oper} {o : Oper} {a : Act} {Q : Exit → Act → World → Prop} (W : World)
    (hgd : o.guard = none) (s x : Operand) (t : TypeId) (hop : o.op = Op.call { callee := Callee.builtin Builtin.append, args := #[s, x], argTypes := #[t, t] })
    (B : Nat) (hB : B ≤ W.heap.size) (e : TypeId) (ht : Try.prog.underlying t = some (.slice e)) (z : Value) (bytes : Nat) (hinfo : (Try.prog.info? e).map (fun i => (i.zero, i.size, i.bytes)) = some (some z, 1, bytes)) (hzs : z.cells.size = 1) (hby : bytes ≤ 16)
    (v : Value) (n : Nat) (xs : List Value) (hs : a.eval s = v) (hown : W.ownsRow B e 1 v n xs) (u : Value) (hu : u.oneCell' = true) (ad : Addr) (c : Nat) (hx : a.eval x = .slice (some ad) 1 c) (hc : W.cell? ad = some u) (hn : n ≤ 1000)
    (hK : ∀ v' w', w'.ownsRow B e 1 v' (n + 1) (xs ++ [u]) → W.grownBy w' v.ownBlock → Moved W v v' → wpList Try.prog ops Q rest (a.put o.dst v') w') :
    wpList Try.prog ops Q (o :: rest) a W := by
  refine wpList_plain hgd fun K hK' => ?_
  obtain ⟨v', w', hrun, h1, h2, h3⟩ := own_app1 W B hB t e o.type ht z bytes hinfo hzs hby v n xs hown u hu ad c hc hn
  unfold Oper.wp
  simp [execOp, hop, resolve, invoke, builtin, hs, hx, hrun, Result.andThen]
  exact hK' _ _ (hK v' w' h1 h2 h3)

theorem Typed.grownQ {W V : World} {row : Option Nat} {b : Nat} {t : TypeId} (h : Typed W b t) (hg : W.grownBy V row) (hr : row ≠ some b) : Typed V b t := by
  obtain ⟨c, fz, h⟩ := h
  exact ⟨c, fz, (hg.block b (Array.getElem?_eq_some_iff.1 h).1 (fun e => hr e.symm)).trans h⟩
theorem Typed.uniq {W : World} {b : Nat} {t u : TypeId} (h : Typed W b t) (h' : Typed W b u) : t = u := by
  obtain ⟨c, fz, h⟩ := h
  obtain ⟨c', fz', h'⟩ := h'
  rw [h] at h'
  injection h' with h'
  injection h' with e1 e2 e3
/-- A text is as it was behind what changes a row that holds none of its cells, also in the sight of other rows. -/
theorem TextAt.grown {R R' : Nat → Prop} {W V : World} {row : Option Nat} {p : Value} {zs : List ByteArray} (h : TextAt R W p zs) (hg : W.grownBy V row) (h1 : ∀ k, row = some k → ¬ Typed W k 52) (h2 : ∀ k, row = some k → R k ∨ ¬ Typed W k 9) (hR : ∀ k, R' k → R k ∨ W.heap.size ≤ k) : TextAt R' V p zs := by
  obtain ⟨b, v, e, ht, c0, c1, c2, A, cap, ev, hc, hs⟩ := h
  have hb : row ≠ some b := fun e => h1 b e ht
  have hcell : ∀ j u, W.cell? ⟨b, j, none⟩ = some u → V.cell? ⟨b, j, none⟩ = some u := fun j u h => hg.cell h (fun e => hb e.symm)
  refine ⟨b, v, e, ht.grownQ hg hb, hcell _ _ c0, hcell _ _ c1, hcell _ _ c2, A, cap, ev, hc, fun j hj => ?_⟩
  obtain ⟨g, o, ea, ⟨⟨hty, hnr⟩, hf⟩, hcl⟩ := hs j hj
  have hgne : row ≠ some g := fun e => by
    rcases h2 g e with h | h
    · exact hnr h
    · exact h hty
  have hlt : g < W.heap.size := World.block_lt_of_cell? _ _ hcl
  refine ⟨g, o, ea, ⟨⟨hty.grownQ hg hgne, fun hr => ?_⟩, ?_⟩, hg.cell hcl (fun e => hgne e.symm)⟩
  · rcases hR g hr with h | h
    · exact hnr h
    · omega
  · rw [World.frozen?_of_block (w := W) (w' := V) (hg.block g hlt (fun e => hgne e.symm))]; exact hf
end Go.Proofs.Ytmllbaacjodccaa
