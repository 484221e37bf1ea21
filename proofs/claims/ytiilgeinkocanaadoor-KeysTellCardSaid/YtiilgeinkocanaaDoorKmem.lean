/- Where keys lie, and what a decoder holds. -/
import Derived.Test.YtiilgeinkocanaaDoorKplain3
import Derived.Test.YtiilgeinkocanaaDoorPut
import Derived.Test.YtiilgeinkocanaaDoorOpenrow
import Derived.Test.YtiilgeinkocanaaDoorBlk
import Derived.Laws.OwnMore
import Derived.OwnWalk
import Derived.Maps.AppendAt
namespace Go.Proofs.YtiilgeinkocanaaDoor
open Go.RowKit

def kyCells (k : Ky) : List Value := [.int .i64 k.kind, .int .i32 k.r, .string k.text]
def flatK (L : List Ky) : List Value := L.flatMap kyCells
theorem flatK_len (L : List Ky) : (flatK L).length = L.length * 3 := by
  unfold flatK
  induction L with
  | nil => rfl
  | cons a l ih => simp only [List.flatMap_cons, List.length_append, kyCells, List.length_cons, List.length_nil] at ih ⊢; omega
theorem flatK_app (L M : List Ky) : flatK (L ++ M) = flatK L ++ flatK M := by simp [flatK]
theorem flatK_at (L : List Ky) (j : Nat) (c : Ky) (h : L[j]? = some c) (i : Nat) (hi : i < 3) : (flatK L)[j * 3 + i]? = (kyCells c)[i]? := by
  induction L generalizing j with
  | nil => simp at h
  | cons a l ih =>
    unfold flatK at ih ⊢
    rw [List.flatMap_cons]
    cases j with
    | zero =>
      obtain rfl : a = c := by simpa using h
      rw [List.getElem?_append_left (by simp [kyCells]; omega), Nat.zero_mul, Nat.zero_add]
    | succ j =>
      rw [List.getElem?_append_right (by simp [kyCells]; omega), show (j + 1) * 3 + i - (kyCells a).length = j * 3 + i by simp [kyCells]; omega]
      exact ih j (by simpa using h)
theorem flatK_one (L : List Ky) : ∀ v ∈ flatK L, v.oneCell' = true := by
  intro v hv
  unfold flatK at hv
  rw [List.mem_flatMap] at hv
  obtain ⟨x, -, hv⟩ := hv
  simp only [kyCells, List.mem_cons, List.not_mem_nil, or_false] at hv
  rcases hv with rfl | rfl | rfl <;> rfl
/-- A slice that reads as these keys. -/
def KeysV (W : World) (v : Value) (L : List Ky) : Prop := ∃ A cap, v = .slice A L.length cap ∧ L.length ≤ cap ∧ (L = [] → A = none ∧ cap = 0) ∧ RowOf W 3 kyCells A L
theorem KeysV.below {w W : World} {v : Value} {L : List Ky} (h : KeysV w v L) (hb : Below w.heap.size w W) : KeysV W v L := by
  obtain ⟨A, cap, e, h1, h2, h3⟩ := h
  exact ⟨A, cap, e, h1, h2, h3.below hb⟩
theorem KeysV.nil (W : World) : KeysV W (.slice none 0 0) [] := ⟨none, 0, rfl, Nat.le_refl _, fun _ => ⟨rfl, rfl⟩, fun j x h => by simp at h⟩
theorem KeysV.flat {W : World} {b o n cap : Nat} {L : List Ky} (h : KeysV W (.slice (some ⟨b, o, none⟩) n cap) L) (j : Nat) (v : Value) (hj : (flatK L)[j]? = some v) : W.cell? ((⟨b, o, none⟩ : Addr).add j) = some v := by
  obtain ⟨A, cap', e, h1, h2, h3⟩ := h
  injection e with e1 e2 e3
  subst e1
  have hlt := (List.getElem?_eq_some_iff.1 hj).1
  rw [flatK_len] at hlt
  have hd : j / 3 < L.length := by omega
  have hx := List.getElem?_eq_getElem hd
  obtain ⟨b', o', e, -, hc⟩ := h3 _ _ hx
  injection e with e; injection e with e4 e5
  subst e4 e5
  have hm := Nat.mod_lt j (show 0 < 3 by omega)
  have ej : j / 3 * 3 + j % 3 = j := by omega
  have hf := flatK_at L _ _ hx (j % 3) hm
  rw [ej, hj] at hf
  have := hc (j % 3) v hf.symm
  rw [Addr.add_lit, ← this]
  congr 2
  omega
/-- A slice of keys that the call made. -/
def OwnK (W : World) (B : Nat) (v : Value) (L : List Ky) : Prop := W.ownsRow B 26 3 v L.length (flatK L)
theorem OwnK.nil (W : World) (B : Nat) : OwnK W B (.slice none 0 0) [] := ⟨rfl, .inl ⟨rfl, rfl⟩⟩
theorem OwnK.below {w W : World} {B : Nat} {v : Value} {L : List Ky} (h : OwnK w B v L) (hb : Below w.heap.size w W) : OwnK W B v L := by
  refine ⟨h.1, ?_⟩
  rcases h.2 with h0 | ⟨g, cap, cur, rfl, hg, hh, q⟩
  · exact .inl h0
  · exact .inr ⟨g, cap, cur, rfl, hg, (hb.block g (Array.getElem?_eq_some_iff.1 hh).1).trans hh, q⟩
theorem OwnK.mono {W : World} {B C : Nat} {v : Value} {L : List Ky} (h : OwnK W B v L) (hc : C ≤ B) : OwnK W C v L := by
  refine ⟨h.1, ?_⟩
  rcases h.2 with h0 | ⟨g, cap, cur, rfl, hg, r⟩
  · exact .inl h0
  · exact .inr ⟨g, cap, cur, rfl, Nat.le_trans hc hg, r⟩
theorem OwnK.off {W : World} {B b : Nat} {v : Value} {L : List Ky} {t : TypeId} {cs : List Value} (h : OwnK W B v L) (hb : Blk W b t cs) (ht : t ≠ 26) (o : Nat) (x : Value) : OwnK (W.setCell ⟨b, o, none⟩ x) B v L := by
  refine ⟨h.1, ?_⟩
  rcases h.2 with h0 | ⟨g, cap, cur, rfl, hg, hh, r⟩
  · exact .inl h0
  · refine .inr ⟨g, cap, cur, rfl, hg, (Below.heap_setCell _ _ _ _ (fun e => ?_)).trans hh, r⟩
    dsimp only at e
    subst e
    rw [show W.heap[g]? = _ from hb] at hh
    injection hh with hh
    injection hh with _ hh _
    exact ht hh
theorem OwnK.keys {W : World} {B : Nat} {v : Value} {L : List Ky} (h : OwnK W B v L) (h0 : L = [] → v = .slice none 0 0) : KeysV W v L := by
  have h2 := h
  rcases h.2 with ⟨rfl, hz⟩ | ⟨g, cap, cur, rfl, hg, hh, h1, -⟩
  · obtain rfl := List.length_eq_zero_iff.1 hz
    exact KeysV.nil W
  · refine ⟨some ⟨g, 0, none⟩, cap, rfl, h1, fun e => ?_, fun j x hj => ⟨g, 0, rfl, (Array.getElem?_eq_some_iff.1 hh).1, fun i u hu => ?_⟩⟩
    · have := h0 e; cases this
    · have hi : i < 3 := by have := (List.getElem?_eq_some_iff.1 hu).1; simpa [kyCells] using this
      have hlt := (List.getElem?_eq_some_iff.1 hj).1
      have := World.ownsRow.cellAt h2 (j * 3 + i) (by omega)
      rw [Nat.zero_add, this, flatK_at L j x hj i hi, hu]
theorem OwnK.form {W : World} {B : Nat} {v : Value} {L : List Ky} (h : OwnK W B v L) : ∃ A c, v = .slice A L.length c := by
  rcases h.2 with ⟨rfl, h0⟩ | ⟨g, cap, cur, rfl, -⟩
  · exact ⟨_, _, by rw [h0]⟩
  · exact ⟨_, _, rfl⟩
/-- A literal of one key is the call's own. -/
theorem OwnK.lit {W : World} {B g : Nat} {k : Ky} (hg : B ≤ g) (hh : W.heap[g]? = some (.cells (kyCells k).toArray 26 (0, 0))) : OwnK W B (.slice (some ⟨g, 0, none⟩) 1 1) [k] :=
  ⟨by simp [flatK, kyCells], .inr ⟨g, 1, (kyCells k).toArray, rfl, hg, hh, Nat.le_refl _, by unfold maxLen; omega, by simp [kyCells], by simp [flatK, kyCells]⟩⟩
theorem info_ky : (Tryd.prog.info? 26).map (fun i => (i.zero, i.size, i.bytes)) = some (some (.agg #[.int .i64 0, .int .i32 0, .string ⟨#[]⟩]), 3, 32) := by kernel_rfl
/-- What append of keys to one's own does. -/
theorem keys_run (W : World) (B : Nat) (hB : B ≤ W.heap.size) (ty : TypeId) (v nv : Value) (L N : List Ky) (hown : OwnK W B v L) (hnv : KeysV W nv N) (hlen : L.length + N.length ≤ 1000000) :
    ∃ v' w', (Builtin.append_ #[23, 23] ty #[v, nv]).run Tryd.prog W = .ok v' w' ∧ OwnK w' B v' (L ++ N) ∧ W.grownBy w' v.ownBlock ∧ Below B W w' ∧ (v' = .slice none 0 0 ↔ v = .slice none 0 0 ∧ N = []) := by
  obtain ⟨i0, hi, hz0, hz1, hz2⟩ := info_parts info_ky
  have hr := hown
  obtain ⟨A, cap, rfl, h1, h2, h3⟩ := id hnv
  by_cases h0 : N = []
  · subst h0
    obtain ⟨rfl, rfl⟩ := h2 rfl
    have hrun := run_append_owned_none (P := Tryd.prog) (w := W) B 23 ty 26 i0 3 Tryd.underlying23 hi v L.length (flatK L) hr
    exact ⟨v, W, by simpa using hrun, by simpa using hown, ⟨rfl, rfl, rfl, Nat.le_refl _, fun _ _ _ => rfl⟩, Below.refl _ _, by simp⟩
  · have hpos : 0 < N.length := List.length_pos_iff.2 h0
    obtain ⟨b, o, rfl, -⟩ := h3 0 _ (List.getElem?_eq_getElem hpos)
    obtain ⟨v', w', hrun, r1, r2, r3⟩ := run_append_own (P := Tryd.prog) W B 23 ty 26 i0 _ 3 32 Tryd.underlying23 hi hz0 hz1 hz2 rfl (by decide) v L.length (flatK L) hr ⟨b, o, none⟩ N.length cap (flatK N) (flatK_len N) (fun j u hu => hnv.flat j u hu) (flatK_one N) (by unfold maxLen; omega) (by omega) hB
    refine ⟨v', w', hrun, by unfold OwnK; rw [flatK_app, List.length_append]; exact r1, r2, ⟨r2.os, r2.tape, r2.output, r2.size, fun k hk => r2.block k (by omega) (fun e => ?_)⟩, ?_⟩
    · have := hr.lt k e.symm
      omega
    · rw [r3]
      constructor
      · rintro ⟨rfl, h⟩; exact ⟨rfl, by simp at h; exact absurd h h0⟩
      · rintro ⟨rfl, h⟩; exact absurd h h0
/-- At the operation. -/
theorem wpList_keys {ops : Array Oper} {rest : List Oper} {o : Oper} {a : Act} {Q : Exit → Act → World → Prop} (W : World) (hgd : o.guard = none) (s x : Operand)
    (hop : o.op = Op.call { callee := Callee.builtin Builtin.append, args := #[s, x], argTypes := #[23, 23] })
    (B : Nat) (hB : B ≤ W.heap.size) (v nv : Value) (L N : List Ky) (hs : a.eval s = v) (hx : a.eval x = nv) (hown : OwnK W B v L) (hnv : KeysV W nv N) (hlen : L.length + N.length ≤ 1000000)
    (hK : ∀ v' w', OwnK w' B v' (L ++ N) → W.grownBy w' v.ownBlock → Below B W w' → (v' = .slice none 0 0 ↔ v = .slice none 0 0 ∧ N = []) → wpList Tryd.prog ops Q rest (a.put o.dst v') w') :
    wpList Tryd.prog ops Q (o :: rest) a W := by
  refine wpList_plain hgd fun K hK' => ?_
  obtain ⟨v', w', hrun, h1, h2, h3, h4⟩ := keys_run W B hB o.type v nv L N hown hnv hlen
  unfold Oper.wp
  simp [execOp, hop, resolve, invoke, builtin, hs, hx, hrun, Result.andThen]
  exact hK' _ _ (hK v' w' h1 h2 h3 h4)

/-- Nothing that lay there has changed but these blocks. -/
structure Ex (F : List Nat) (w w' : World) : Prop where
  os : w'.os = w.os
  tape : w'.tape = w.tape
  output : w'.output = w.output
  size : w.heap.size ≤ w'.heap.size
  block : ∀ k, k < w.heap.size → k ∉ F → w'.heap[k]? = w.heap[k]?
theorem Ex.refl (F : List Nat) (w : World) : Ex F w w := ⟨rfl, rfl, rfl, Nat.le_refl _, fun _ _ _ => rfl⟩
theorem Ex.of_below {w w' : World} (h : Below w.heap.size w w') (F : List Nat) : Ex F w w' := ⟨h.os, h.tape, h.output, h.size, fun k hk _ => h.block k hk⟩
theorem Ex.trans {F G : List Nat} {a b c : World} (h : Ex F a b) (k : Ex G b c) (hG : ∀ x ∈ G, x ∈ F ∨ a.heap.size ≤ x) : Ex F a c :=
  ⟨k.os.trans h.os, k.tape.trans h.tape, k.output.trans h.output, Nat.le_trans h.size k.size, fun x hx hF => (k.block x (Nat.lt_of_lt_of_le hx h.size) (fun hg => by rcases hG x hg with e | e; exact hF e; omega)).trans (h.block x hx hF)⟩
theorem Ex.below {F : List Nat} {B : Nat} {w w' : World} (h : Ex F w w') (hF : ∀ x ∈ F, B ≤ x) (hB : B ≤ w.heap.size) : Below B w w' := ⟨h.os, h.tape, h.output, h.size, fun k hk => h.block k (by omega) (fun hm => by have := hF k hm; omega)⟩
theorem Ex.set (w : World) (b o : Nat) (x : Value) : Ex [b] w (w.setCell ⟨b, o, none⟩ x) := ⟨rfl, rfl, rfl, by simp [World.setCell], fun k _ hk => Below.heap_setCell _ _ _ _ (fun e => hk (by simp [e]))⟩
theorem Ex.blk {F : List Nat} {w w' : World} (h : Ex F w w') {b : Nat} {t : TypeId} {cs : List Value} (hb : Blk w b t cs) (hn : b ∉ F) : Blk w' b t cs := (h.block b hb.lt hn).trans hb
/-- The bytes of a text, as cells. -/
def byteV (p : ByteArray) : List Value := p.data.toList.map fun b => Value.int .u8 (b.toNat : Int)
/-- What a decoder holds: F are its blocks. -/
def DecAt (W : World) (D : Nat) (F : List Nat) (st : KS) : Prop :=
  (st.1 = false ∧ F = [D] ∧ Blk W D 46 [.iface 9 (.string st.2)]) ∨
  (st.1 = true ∧ ∃ q v, (F = [D, q] ∧ v = .slice none 0 0 ∧ st.2.size = 0 ∨ ∃ g n c, F = [D, q, g] ∧ v = .slice (some ⟨g, 0, none⟩) n c) ∧ Blk W D 46 [.iface 53 (.pointer (some ⟨q, 0, none⟩))] ∧ Blk W q 70 [v] ∧ W.ownsRow 0 5 1 v st.2.size (byteV st.2))
end Go.Proofs.YtiilgeinkocanaaDoor
