/- The acts of limnerlaw03.PiecesPlay; its loop's beginning; one append in a region that draws. -/
import Derived.Test.YtmllbaacjodccaaQans
import Derived.Test.YtmllbaacjodccaaOpenrow
import Derived.Deep.RegionLawGrows
namespace Go.Proofs.Ytmllbaacjodccaa
open Go.RowKit

/-- An act: what, from where, up to where, with which text. -/
abbrev Pact := Int × Int × Int × ByteArray
def pactCells (x : Pact) : List Value := [.int .u8 x.1, .int .i64 x.2.1, .int .i64 x.2.2.1, .string x.2.2.2]
theorem pact_at {w : World} {A : Option Addr} {l : List Pact} (h : RowOf w 4 pactCells A l) {j : Nat} {x : Pact} (hx : l[j]? = some x) :
    ∃ b o, A = some ⟨b, o, none⟩ ∧ b < w.heap.size ∧ w.cell? ⟨b, o + j * 4, none⟩ = some (.int .u8 x.1) ∧ w.cell? ⟨b, o + j * 4 + 1, none⟩ = some (.int .i64 x.2.1) ∧ w.cell? ⟨b, o + j * 4 + 2, none⟩ = some (.int .i64 x.2.2.1) ∧ w.cell? ⟨b, o + j * 4 + 3, none⟩ = some (.string x.2.2.2) := by
  obtain ⟨b, o, e, hb, hc⟩ := h j x hx
  exact ⟨b, o, e, hb, hc 0 _ rfl, hc 1 _ rfl, hc 2 _ rfl, hc 3 _ rfl⟩
theorem one_ok (s : ByteArray) (hs : s.size ≤ 16384) (p : Value) : TxOk 0 (p, onePiece s, s) := by
  refine ⟨joined_one s, full_one s, ?_, ?_⟩
  · have := joined_size (onePiece s)
    rw [joined_one] at this
    show total (onePiece s) ≤ 16384
    omega
  · show (onePiece s).length ≤ 1 + 2 * 0
    unfold onePiece
    split <;> simp
/-- A text in the sight of no row is one in the sight of rows that are made behind it. -/
theorem TextAt.sight {R : Nat → Prop} {W : World} {p : Value} {zs : List ByteArray} (h : TextAt (fun _ => False) W p zs) (hR : ∀ k, R k → W.heap.size ≤ k) : TextAt R W p zs := by
  obtain ⟨b, v, e, ht, c0, c1, c2, A, cap, ev, hc, hs⟩ := h
  refine ⟨b, v, e, ht, c0, c1, c2, A, cap, ev, hc, fun j hj => ?_⟩
  obtain ⟨g, o, ea, ⟨⟨hty, _⟩, hf⟩, hcl⟩ := hs j hj
  exact ⟨g, o, ea, ⟨⟨hty, fun hr => by have := hR g hr; have := World.block_lt_of_cell? _ _ hcl; dsimp only at this; omega⟩, hf⟩, hcl⟩
theorem below_allocP {A W : World} (h : Below A.heap.size A W) (b : Obj) : Below A.heap.size A (W.alloc b) := h.alloc h.size b
theorem PT.start {w W : World} {p : Value} {s : ByteArray} (hb : Below w.heap.size w W) (h : TextAt (fun _ => False) W p (onePiece s)) (hs : s.size ≤ 16384) :
    PT w ((W.alloc (.cells #[p] 25)).alloc (.cells #[.string s] 9)) (.slice (some ⟨W.heap.size, 0, none⟩) 1 1) (.slice (some ⟨W.heap.size + 1, 0, none⟩) 1 1) 0 [(p, onePiece s, s)] := by
  have hb1 : Below W.heap.size W (W.alloc (.cells #[p] 25)) := below_allocP (Below.refl _ _) _
  have hsz : (W.alloc (.cells #[p] 25)).heap.size = W.heap.size + 1 := by simp
  have hb2 : Below (W.alloc (.cells #[p] 25)).heap.size (W.alloc (.cells #[p] 25)) ((W.alloc (.cells #[p] 25)).alloc (.cells #[.string s] 9)) := below_allocP (Below.refl _ _) _
  have hb3 := hb1.trans (hb2.mono hb1.size)
  have hw := hb.size
  refine ⟨own_belowQ (World.ownsRow_lit W #[p] 1 hw (by unfold maxLen; omega) rfl) hb2, ?_, ?_, hb.trans (hb3.mono hw), by simp, by simp⟩
  · have := World.ownsRow_lit (base := w.heap.size) (e := 9) (size := 1) (W.alloc (.cells #[p] 25)) #[.string s] 1 (by omega) (by unfold maxLen; omega) rfl
    rw [hsz] at this
    exact this
  · intro x hx
    rw [List.mem_singleton.1 hx]
    refine ⟨?_, one_ok s hs p⟩
    have h1 : TextAt (fun k => (Value.slice (some ⟨W.heap.size + 1, 0, none⟩) 1 1).ownBlock = some k) W p (onePiece s) := h.sight (fun k hk => by simp [Value.ownBlock] at hk; omega)
    exact h1.below hb3

/-- As own_app1; and what the row held is held. -/
theorem own_app2 (W : World) (B : Nat) (hB : B ≤ W.heap.size) (t e ty : TypeId) (ht : Try.prog.underlying t = some (.slice e)) (z : Value) (bytes : Nat) (hinfo : (Try.prog.info? e).map (fun i => (i.zero, i.size, i.bytes)) = some (some z, 1, bytes)) (hzs : z.cells.size = 1) (hby : bytes ≤ 16)
    (g n cap : Nat) (xs : List Value) (hown : W.ownsRow B e 1 (.slice (some ⟨g, 0, none⟩) n cap) n xs) (u : Value) (hu : u.oneCell' = true) (a : Addr) (c : Nat) (hc : W.cell? a = some u) (hn : n ≤ 1000) :
    ∃ v' w', (Builtin.append_ #[t, t] ty #[.slice (some ⟨g, 0, none⟩) n cap, .slice (some a) 1 c]).run Try.prog W = .ok v' w' ∧ w'.ownsRow B e 1 v' (n + 1) (xs ++ [u]) ∧ W.grownBy w' (some g) ∧ Moved W (.slice (some ⟨g, 0, none⟩) n cap) v' ∧ ∀ j, j < n → w'.cell? ⟨g, j, none⟩ = W.cell? ⟨g, j, none⟩ := by
  obtain ⟨v', w', hr, h2, h3, h4⟩ := own_app1 W B hB t e ty ht z bytes hinfo hzs hby _ n xs hown u hu a c hc hn
  refine ⟨v', w', hr, h2, h3, h4, fun j hj => ?_⟩
  have hxl : xs.length = n := by rw [hown.1, Nat.mul_one]
  obtain ⟨i0, hi, hz0, hz1, hz2⟩ := info_parts hinfo
  have hnews : ∀ j x, ([u] : List Value)[j]? = some x → W.cell? (a.add j) = some x := by
    intro j x hx
    have hj : j = 0 := by have := (List.getElem?_eq_some_iff.1 hx).1; simpa using this
    subst hj
    have ha : a.add 0 = a := by
      obtain ⟨b, o, sp⟩ := a
      have hs : sp = none := by simpa using World.cell?_spot hc
      subst hs
      rw [Addr.add_lit, Nat.add_zero]
    rw [ha, hc]
    simpa using hx
  have h1s : ∀ x ∈ ([u] : List Value), x.oneCell' = true := by intro x hx; rw [List.mem_singleton.1 hx]; exact hu
  have hb2 : (n + 1) * bytes ≤ 140737488355328 := Nat.le_trans (Nat.mul_le_mul (show n + 1 ≤ 1001 by omega) hby) (by omega)
  have hcell := hown.cellAt j (by omega)
  rcases id hown.2 with ⟨e1, rfl⟩ | ⟨g', cap', cur, e1, hg, hh, hl, hm, hs, htk⟩
  · omega
  · injection e1 with e1 _ e1c
    injection e1 with e1; injection e1 with e1 _
    subst e1 e1c
    by_cases hrm : n + 1 ≤ cap
    · have hrun := run_append_room_cells (P := Try.prog) W t ty e i0 ht hi g 0 n cap a 1 c [u] (by rw [hz1]; rfl) hnews h1s hrm
        (fun j hj => by
          obtain rfl : j = 0 := by simpa using hj
          rw [hz1, World.cell?, hh]
          simp [show n < cur.size by omega]) (fun j hj => hown.frozenAt _)
      rw [hrun] at hr
      injection hr with e1 e2
      subst e1
      rw [hcell, h2.cellAt j (by omega), List.getElem?_append_left (by omega)]
    · obtain ⟨v1, w1, hr1, g1, g2⟩ := run_append_arg_grows (P := Try.prog) W t ty e i0 z 1 bytes ht hi hz0 hz1 hz2 hzs (by decide) ⟨g, 0, none⟩ n cap xs hown.1 (fun j x hx => by
        have hj : j < xs.length := (List.getElem?_eq_some_iff.1 hx).1
        rw [Addr.add_lit, Nat.zero_add, hown.cellAt j (by omega)]
        exact hx) a 1 c [u] rfl hnews (by omega) (by unfold maxLen; omega) hb2
      rw [hr1] at hr
      injection hr with e1 e2
      subst e1 e2
      refine World.cell?_of_block (g2.block g ?_ (by simp))
      exact (Array.getElem?_eq_some_iff.1 hh).1

/-- Append of one value to an own row, as a step of a region that draws. -/
theorem step_own1 {ops : Array Oper} {o : Oper} {a : Act} {W : World} {K : Act → World → Prop} {Q : Exit → Act → World → Prop} {E : Prop}
    (hgd : o.guard = none) (s x : Operand) (t : TypeId) (hop : o.op = Op.call { callee := Callee.builtin Builtin.append, args := #[s, x], argTypes := #[t, t] })
    (B : Nat) (hB : B ≤ W.heap.size) (e : TypeId) (ht : Try.prog.underlying t = some (.slice e)) (z : Value) (bytes : Nat) (hinfo : (Try.prog.info? e).map (fun i => (i.zero, i.size, i.bytes)) = some (some z, 1, bytes)) (hzs : z.cells.size = 1) (hby : bytes ≤ 16)
    (g n cap : Nat) (xs : List Value) (hs : a.eval s = .slice (some ⟨g, 0, none⟩) n cap) (hown : W.ownsRow B e 1 (.slice (some ⟨g, 0, none⟩) n cap) n xs) (u : Value) (hu : u.oneCell' = true) (ad : Addr) (c : Nat) (hx : a.eval x = .slice (some ad) 1 c) (hc : W.cell? ad = some u) (hn : n ≤ 1000)
    (hK : ∀ v' w', w'.ownsRow B e 1 v' (n + 1) (xs ++ [u]) → W.grownBy w' (some g) → Moved W (.slice (some ⟨g, 0, none⟩) n cap) v' → (∀ j, j < n → w'.cell? ⟨g, j, none⟩ = W.cell? ⟨g, j, none⟩) → K (a.put o.dst v') w') :
    if Region.wanted o (yielded ops a.tmps) = true then Oper.wp Try.prog o a W K Q else E := by
  have hw : Region.wanted o (yielded ops a.tmps) = true := by simp [Region.wanted, hgd]
  rw [if_pos hw]
  obtain ⟨v', w', hrun, h1, h2, h3, h4⟩ := own_app2 W B hB t e o.type ht z bytes hinfo hzs hby g n cap xs hown u hu ad c hc hn
  unfold Oper.wp
  simp [execOp, hop, resolve, invoke, builtin, hs, hx, hrun, Result.andThen]
  exact hK _ _ h1 h2 h3 h4
theorem lit_kept {W V : World} {g a : Nat} {u : Value} (hg : W.grownBy V (some g)) (h : W.cell? ⟨a, 0, none⟩ = some u) (hlt : g < a) : V.cell? ⟨a, 0, none⟩ = some u :=
  hg.cell h (fun e => by injection e with e; dsimp only at e; omega)
theorem info_ptrQ : (Try.prog.info? 25).map (fun i => (i.zero, i.size, i.bytes)) = some (some (.pointer none), 1, 8) := by kernel_rfl

/-- The string is appended, its text not yet. -/
def PTs (w W : World) (vt vs : Value) (n : Nat) (L : List Tx) (x : Tx) : Prop :=
  W.ownsRow w.heap.size 25 1 vt L.length (L.map (·.1)) ∧ W.ownsRow w.heap.size 9 1 vs (L.length + 1) ((L.map fun x => .string x.2.2) ++ [.string x.2.2]) ∧
  (∀ y ∈ L ++ [x], TextAt (fun k => vs.ownBlock = some k) W y.1 y.2.1 ∧ TxOk (n + 1) y) ∧ Below w.heap.size w W ∧ L.length ≤ 1 + n
theorem PTs.below {w A W : World} {vt vs : Value} {n : Nat} {L : List Tx} {x : Tx} (h : PTs w A vt vs n L x) (hb : Below A.heap.size A W) : PTs w W vt vs n L x := by
  obtain ⟨h1, h2, h3, h4, h5⟩ := h
  exact ⟨own_belowQ h1 hb, own_belowQ h2 hb, fun x hx => ⟨(h3 x hx).1.below hb, (h3 x hx).2⟩, h4.trans (hb.mono h4.size), h5⟩
theorem PT.pushS {w W V : World} {vt vs vs' : Value} {n : Nat} {L : List Tx} {x : Tx} (h : PT w W vt vs n L) (hx : TextAt (fun k => vs.ownBlock = some k) W x.1 x.2.1) (ho : TxOk (n + 1) x)
    (hown : V.ownsRow w.heap.size 9 1 vs' (L.length + 1) ((L.map fun x => Value.string x.2.2) ++ [.string x.2.2])) (hg : W.grownBy V vs.ownBlock) (hm : Moved W vs vs') : PTs w V vt vs' n L x := by
  obtain ⟨h1, h2, h3, h4, h5, h6⟩ := h
  have k1 : ∀ k, vs.ownBlock = some k → ¬ Typed W k 52 := fun k e ht => absurd (Typed.uniq ht (own_kindQ h2 k e)) (by decide)
  have k2 : ∀ k, vs.ownBlock = some k → ¬ Typed W k 25 := fun k e ht => absurd (Typed.uniq ht (own_kindQ h2 k e)) (by decide)
  have hT : ∀ y : Tx, TextAt (fun k => vs.ownBlock = some k) W y.1 y.2.1 → TextAt (fun k => vs'.ownBlock = some k) V y.1 y.2.1 := fun y hy => hy.grown hg k1 (fun k e => .inl e) hm
  refine ⟨h1.kept hg ?_, hown, fun y hy => ?_, ?_, h5⟩
  · cases hv : vt.ownBlock with
    | none => exact .inl rfl
    | some k => exact .inr (fun e => k2 k e.symm (own_kindQ h1 k hv))
  · rcases List.mem_append.1 hy with hy | hy
    · exact ⟨hT y (h3 y hy).1, (h3 y hy).2.up (by omega)⟩
    · rw [List.mem_singleton.1 hy]; exact ⟨hT x hx, ho⟩
  · exact ⟨hg.os.trans h4.os, hg.tape.trans h4.tape, hg.output.trans h4.output, Nat.le_trans h4.size hg.size, fun i hi => (hg.block i (by have := h4.size; omega) (fun e => by have := (h2.lt i e.symm).1; omega)).trans (h4.block i hi)⟩
theorem PTs.pushT {w W V : World} {vt vt' vs : Value} {n : Nat} {L : List Tx} {x : Tx} (h : PTs w W vt vs n L x)
    (hown : V.ownsRow w.heap.size 25 1 vt' (L.length + 1) (L.map (·.1) ++ [x.1])) (hg : W.grownBy V vt.ownBlock) : PT w V vt' vs (n + 1) (L ++ [x]) := by
  obtain ⟨h1, h2, h3, h4, h5⟩ := h
  have k1 : ∀ k, vt.ownBlock = some k → ¬ Typed W k 52 := fun k e ht => absurd (Typed.uniq ht (own_kindQ h1 k e)) (by decide)
  have k2 : ∀ k, vt.ownBlock = some k → ¬ Typed W k 9 := fun k e ht => absurd (Typed.uniq ht (own_kindQ h1 k e)) (by decide)
  refine ⟨by simpa using hown, ?_, fun y hy => ⟨(h3 y hy).1.grown hg k1 (fun k e => .inr (k2 k e)) (fun k e => .inl e), (h3 y hy).2⟩, ?_, by simp; omega, by simp⟩
  · have := h2.kept hg (by
      cases hv : vs.ownBlock with
      | none => exact .inl rfl
      | some k => exact .inr (fun e => k2 k e.symm (own_kindQ h2 k hv)))
    simpa using this
  · exact ⟨hg.os.trans h4.os, hg.tape.trans h4.tape, hg.output.trans h4.output, Nat.le_trans h4.size hg.size, fun i hi => (hg.block i (by have := h4.size; omega) (fun e => by have := (h1.lt i e.symm).1; omega)).trans (h4.block i hi)⟩
end Go.Proofs.Ytmllbaacjodccaa
