/- The state of limnerlaw03.PiecesPlay's loop: two rows of its own, the texts and the strings, and what each text is. -/
import Derived.Test.YtmllbaacjodccaaQsame
import Derived.Test.YtmllbaacjodccaaQbad
import Derived.Test.YtmllbaacjodccaaQrows
namespace Go.Proofs.Ytmllbaacjodccaa
open Go.RowKit

/-- A text, its pieces, its bytes. -/
abbrev Tx := Value × List ByteArray × ByteArray
def TxOk (n : Nat) (x : Tx) : Prop := joined x.2.1 = x.2.2 ∧ Full x.2.1 ∧ total x.2.1 ≤ 16384 ∧ x.2.1.length ≤ 1 + 2 * n
theorem TxOk.up {n m : Nat} {x : Tx} (h : TxOk n x) (hm : n ≤ m) : TxOk m x := ⟨h.1, h.2.1, h.2.2.1, by have := h.2.2.2; omega⟩
theorem TxOk.size {n : Nat} {x : Tx} (h : TxOk n x) : x.2.2.size = total x.2.1 := by rw [← h.1, joined_size]
theorem own_kindQ {w : World} {B : Nat} {e : TypeId} {size : Nat} {v : Value} {n : Nat} {xs : List Value} (h : w.ownsRow B e size v n xs) (g : Nat) (hg : v.ownBlock = some g) : Typed w g e := by
  rcases h.2 with ⟨rfl, rfl⟩ | ⟨g', cap, cur, rfl, _, hh, _⟩
  · simp [Value.ownBlock] at hg
  · simp [Value.ownBlock] at hg
    subst hg
    exact ⟨cur, _, hh⟩
theorem own_belowQ {w W : World} {B : Nat} {e : TypeId} {k : Nat} {v : Value} {n : Nat} {xs : List Value} (h : w.ownsRow B e k v n xs) (hb : Below w.heap.size w W) : W.ownsRow B e k v n xs := by
  refine h.kept (row := none) ⟨hb.os, hb.tape, hb.output, hb.size, fun i hi _ => hb.block i hi⟩ ?_
  cases v.ownBlock with
  | none => exact .inl rfl
  | some k => exact .inr (by simp)
theorem own_formQ {w : World} {B : Nat} {e : TypeId} {k : Nat} {v : Value} {n : Nat} {xs : List Value} (h : w.ownsRow B e k v n xs) (hn : 0 < n) : ∃ g cap, v = .slice (some ⟨g, 0, none⟩) n cap := by
  rcases h.2 with ⟨rfl, rfl⟩ | ⟨g', cap, cur, rfl, _⟩
  · omega
  · exact ⟨g', cap, rfl⟩

/-- Texts and strings side by side. -/
def PT (w W : World) (vt vs : Value) (n : Nat) (L : List Tx) : Prop :=
  W.ownsRow w.heap.size 25 1 vt L.length (L.map (·.1)) ∧ W.ownsRow w.heap.size 9 1 vs L.length (L.map fun x => .string x.2.2) ∧
  (∀ x ∈ L, TextAt (fun k => vs.ownBlock = some k) W x.1 x.2.1 ∧ TxOk n x) ∧ Below w.heap.size w W ∧ L.length ≤ 1 + n ∧ 0 < L.length
/-- The text is appended, its string not yet. -/
def PT1 (w W : World) (vt vs : Value) (n : Nat) (L : List Tx) (x : Tx) : Prop :=
  W.ownsRow w.heap.size 25 1 vt (L.length + 1) (L.map (·.1) ++ [x.1]) ∧ W.ownsRow w.heap.size 9 1 vs L.length (L.map fun x => .string x.2.2) ∧
  (∀ y ∈ L ++ [x], TextAt (fun k => vs.ownBlock = some k) W y.1 y.2.1 ∧ TxOk (n + 1) y) ∧ Below w.heap.size w W ∧ L.length ≤ 1 + n
theorem PT.below {w A W : World} {vt vs : Value} {n : Nat} {L : List Tx} (h : PT w A vt vs n L) (hb : Below A.heap.size A W) : PT w W vt vs n L := by
  obtain ⟨h1, h2, h3, h4, h5⟩ := h
  exact ⟨own_belowQ h1 hb, own_belowQ h2 hb, fun x hx => ⟨(h3 x hx).1.below hb, (h3 x hx).2⟩, h4.trans (hb.mono h4.size), h5⟩
theorem PT1.below {w A W : World} {vt vs : Value} {n : Nat} {L : List Tx} {x : Tx} (h : PT1 w A vt vs n L x) (hb : Below A.heap.size A W) : PT1 w W vt vs n L x := by
  obtain ⟨h1, h2, h3, h4, h5⟩ := h
  exact ⟨own_belowQ h1 hb, own_belowQ h2 hb, fun x hx => ⟨(h3 x hx).1.below hb, (h3 x hx).2⟩, h4.trans (hb.mono h4.size), h5⟩
theorem PT.next {w W : World} {vt vs : Value} {n : Nat} {L : List Tx} (h : PT w W vt vs n L) : PT w W vt vs (n + 1) L := by
  obtain ⟨h1, h2, h3, h4, h5, h6⟩ := h
  exact ⟨h1, h2, fun x hx => ⟨(h3 x hx).1, (h3 x hx).2.up (by omega)⟩, h4, by omega, h6⟩
theorem PT.lows {w W : World} {vt vs : Value} {n : Nat} {L : List Tx} (h : PT w W vt vs n L) : Lows (fun k => vs.ownBlock = some k) W.heap.size := by
  intro b hb hk
  have := (h.2.1.lt b hk).2
  omega
theorem PT.push1 {w W V : World} {vt vt' vs : Value} {n : Nat} {L : List Tx} {x : Tx} (h : PT w W vt vs n L) (hx : TextAt (fun k => vs.ownBlock = some k) W x.1 x.2.1) (ho : TxOk (n + 1) x)
    (hown : V.ownsRow w.heap.size 25 1 vt' (L.length + 1) (L.map (·.1) ++ [x.1])) (hg : W.grownBy V vt.ownBlock) : PT1 w V vt' vs n L x := by
  obtain ⟨h1, h2, h3, h4, h5, h6⟩ := h
  have k1 : ∀ k, vt.ownBlock = some k → ¬ Typed W k 52 := fun k e ht => absurd (Typed.uniq ht (own_kindQ h1 k e)) (by decide)
  have k2 : ∀ k, vt.ownBlock = some k → ¬ Typed W k 9 := fun k e ht => absurd (Typed.uniq ht (own_kindQ h1 k e)) (by decide)
  have hT : ∀ y : Tx, TextAt (fun k => vs.ownBlock = some k) W y.1 y.2.1 → TextAt (fun k => vs.ownBlock = some k) V y.1 y.2.1 := fun y hy => hy.grown hg k1 (fun k e => .inr (k2 k e)) (fun k e => .inl e)
  refine ⟨hown, h2.kept hg ?_, fun y hy => ?_, ?_, h5⟩
  · cases hv : vs.ownBlock with
    | none => exact .inl rfl
    | some k => exact .inr (fun e => k2 k e.symm (own_kindQ h2 k hv))
  · rcases List.mem_append.1 hy with hy | hy
    · exact ⟨hT y (h3 y hy).1, (h3 y hy).2.up (by omega)⟩
    · rw [List.mem_singleton.1 hy]; exact ⟨hT x hx, ho⟩
  · exact ⟨hg.os.trans h4.os, hg.tape.trans h4.tape, hg.output.trans h4.output, Nat.le_trans h4.size hg.size, fun i hi => (hg.block i (by have := h4.size; omega) (fun e => by have := (h1.lt i e.symm).1; omega)).trans (h4.block i hi)⟩
theorem PT1.push2 {w W V : World} {vt vs vs' : Value} {n : Nat} {L : List Tx} {x : Tx} (h : PT1 w W vt vs n L x)
    (hown : V.ownsRow w.heap.size 9 1 vs' (L.length + 1) ((L.map fun x => Value.string x.2.2) ++ [.string x.2.2])) (hg : W.grownBy V vs.ownBlock) (hm : Moved W vs vs') : PT w V vt vs' (n + 1) (L ++ [x]) := by
  obtain ⟨h1, h2, h3, h4, h5⟩ := h
  have k1 : ∀ k, vs.ownBlock = some k → ¬ Typed W k 52 := fun k e ht => absurd (Typed.uniq ht (own_kindQ h2 k e)) (by decide)
  have k2 : ∀ k, vs.ownBlock = some k → ¬ Typed W k 25 := fun k e ht => absurd (Typed.uniq ht (own_kindQ h2 k e)) (by decide)
  refine ⟨?_, ?_, fun y hy => ⟨(h3 y hy).1.grown hg k1 (fun k e => .inl e) hm, (h3 y hy).2⟩, ?_, by simp; omega, by simp⟩
  · have := h1.kept hg (by
      cases hv : vt.ownBlock with
      | none => exact .inl rfl
      | some k => exact .inr (fun e => k2 k e.symm (own_kindQ h1 k hv)))
    simpa using this
  · simpa using hown
  · exact ⟨hg.os.trans h4.os, hg.tape.trans h4.tape, hg.output.trans h4.output, Nat.le_trans h4.size hg.size, fun i hi => (hg.block i (by have := h4.size; omega) (fun e => by have := (h2.lt i e.symm).1; omega)).trans (h4.block i hi)⟩
/-- What lies in the two rows. -/
theorem PT.reads {w W : World} {vt vs : Value} {n : Nat} {L : List Tx} (h : PT w W vt vs n L) : ∃ g c g' c', vt = .slice (some ⟨g, 0, none⟩) L.length c ∧ vs = .slice (some ⟨g', 0, none⟩) L.length c' ∧ ∀ j (hj : j < L.length), W.cell? ⟨g, j, none⟩ = some L[j].1 ∧ W.cell? ⟨g', j, none⟩ = some (.string L[j].2.2) := by
  obtain ⟨h1, h2, h3, h4, h5, h6⟩ := h
  obtain ⟨g, c, rfl⟩ := own_formQ h1 h6
  obtain ⟨g', c', rfl⟩ := own_formQ h2 h6
  refine ⟨g, c, g', c', rfl, rfl, fun j hj => ⟨?_, ?_⟩⟩
  · rw [h1.cellAt j (by omega)]; simp [hj]
  · rw [h2.cellAt j (by omega)]; simp [hj]
end Go.Proofs.Ytmllbaacjodccaa
