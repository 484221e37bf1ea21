/- Contracts of then, escaped, third of keys. -/
import Derived.Test.YtiilgeinkocanaaDoorKfirst
import Derived.Test.YtiilgeinkocanaaDoorIn
namespace Go.Proofs.YtiilgeinkocanaaDoor
open Go.RowKit

/-- Below B nothing has changed but this block. -/
structure ExU (B D : Nat) (w w' : World) : Prop where
  os : w'.os = w.os
  tape : w'.tape = w.tape
  output : w'.output = w.output
  size : w.heap.size ≤ w'.heap.size
  block : ∀ k, k < B → k ≠ D → w'.heap[k]? = w.heap[k]?
theorem Ex.up {B D : Nat} {w w' : World} (h : Ex [D] w w') (hB : B ≤ w.heap.size) : ExU B D w w' := ⟨h.os, h.tape, h.output, h.size, fun k hk hn => h.block k (by omega) (by simpa using hn)⟩
theorem ExU.grown {B D : Nat} {w W W' : World} {row : Option Nat} (h : ExU B D w W) (hg : W.grownBy W' row) (hr : ∀ k, row = some k → B ≤ k) (hB : B ≤ W.heap.size) : ExU B D w W' :=
  ⟨hg.os.trans h.os, hg.tape.trans h.tape, hg.output.trans h.output, Nat.le_trans h.size hg.size, fun k hk hn => (hg.block k (by omega) (fun e => by have := hr k e.symm; omega)).trans (h.block k hk hn)⟩
theorem Ex.andU {D : Nat} {w W W' : World} (h : Ex [D] w W) (k : ExU w.heap.size D W W') : Ex [D] w W' :=
  ⟨k.os.trans h.os, k.tape.trans h.tape, k.output.trans h.output, Nat.le_trans h.size k.size, fun x hx hn => (k.block x hx (by simpa using hn)).trans (h.block x hx hn)⟩
theorem OwnK.ne {W : World} {B D : Nat} {v : Value} {L : List Ky} {t : TypeId} {cs : List Value} (h : OwnK W B v L) (hb : Blk W D t cs) (ht : t ≠ 26) : v.ownBlock ≠ some D := by
  rcases h.2 with ⟨rfl, -⟩ | ⟨g, cap, cur, rfl, hg, hh, -⟩
  · intro e; cases e
  · intro e
    have e2 : some g = some D := e
    injection e2 with e2
    subst e2
    rw [show W.heap[g]? = _ from hb] at hh
    injection hh with hh
    injection hh with _ hh _
    exact ht hh
theorem OwnK.ex {W W' : World} {B D : Nat} {v : Value} {L : List Ky} {t : TypeId} {cs : List Value} (h : OwnK W B v L) (hb : Blk W D t cs) (ht : t ≠ 26) (hx : Ex [D] W W') : OwnK W' B v L := by
  have hne := h.ne hb ht
  refine ⟨h.1, ?_⟩
  rcases h.2 with h0 | ⟨g, cap, cur, rfl, hg, hh, r⟩
  · exact .inl h0
  · refine .inr ⟨g, cap, cur, rfl, hg, (hx.block g (Array.getElem?_eq_some_iff.1 hh).1 (fun hm => hne ?_)).trans hh, r⟩
    have : g = D := by simpa using hm
    rw [this]; rfl
theorem Blk.keep {W W' : World} {D : Nat} {t : TypeId} {cs : List Value} {row : Option Nat} (h : Blk W D t cs) (hg : W.grownBy W' row) (hn : row ≠ some D) : Blk W' D t cs := (hg.block D h.lt (fun e => hn e.symm)).trans h
theorem own_ge {W : World} {B : Nat} {v : Value} {L : List Ky} (h : OwnK W B v L) : ∀ k, v.ownBlock = some k → B ≤ k := by
  intro k hk
  rcases h.2 with ⟨rfl, -⟩ | ⟨g, cap, cur, rfl, hg, -⟩
  · cases hk
  · have e2 : some g = some k := hk
    injection e2 with e2
    omega
/-- A block that is none of the tables'. -/
def SafeB (k : Nat) : Prop := k ≠ 0 ∧ k ≠ 1 ∧ k ≠ 2 ∧ k ≠ 3
theorem ex_cell {F : List Nat} {W W' : World} {b o : Nat} {u : Value} (hx : Ex F W W') (hb : b ∉ F) (h : W.cell? ⟨b, o, none⟩ = some u) : W'.cell? ⟨b, o, none⟩ = some u :=
  (World.cell?_of_block (w := W) (w' := W') (a := ⟨b, o, none⟩) (hx.block b (World.block_lt_of_cell? _ _ h) hb)).trans h
theorem utabs_ex {F : List Nat} {W W' : World} (h : UTabs W) (hx : Ex F W W') (hF : ∀ k ∈ F, SafeB k) : UTabs W' :=
  ⟨fun c hc => ex_cell hx (fun hm => (hF _ hm).2.2.1 rfl) (h.1 c hc), fun i hi => ⟨ex_cell hx (fun hm => (hF _ hm).2.2.2 rfl) (h.2 i hi).1, ex_cell hx (fun hm => (hF _ hm).2.2.2 rfl) (h.2 i hi).2⟩⟩
theorem wtabs_ex {F : List Nat} {W W' : World} (h : WTabs W) (hx : Ex F W W') (hF : ∀ k ∈ F, SafeB k) : WTabs W' :=
  ⟨fun j hj => ⟨ex_cell hx (fun hm => (hF _ hm).1 rfl) (h.1 j hj).1, ex_cell hx (fun hm => (hF _ hm).1 rfl) (h.1 j hj).2⟩, fun j hj => ⟨ex_cell hx (fun hm => (hF _ hm).2.1 rfl) (h.2 j hj).1, ex_cell hx (fun hm => (hF _ hm).2.1 rfl) (h.2 j hj).2⟩⟩
theorem decKey : 46 ≠ 26 := by decide
def TPost (B D : Nat) (p : ByteArray × List Ky) (w : World) (e : Ending) (w' : World) : Prop :=
  ∃ v, e = .returned v ∧ OwnK w' B v p.2 ∧ Blk w' D 46 [.iface 9 (.string p.1)] ∧ ExU B D w w'
set_option maxRecDepth 100000 in
set_option maxHeartbeats 1000000 in
theorem then_any (D B : Nat) (l c : Value) (L : List Ky) (x : Int) (w : World) (hT : UTabs w) (h0 : 0 ≤ x) (h1 : x ≤ 255) (hl : OwnK w B l L) (hL : L.length ≤ 10) (hB : B ≤ w.heap.size) (hs : SafeB D) (h : Blk w D 46 [c]) :
    Calls Tryd.prog 50 #[.pointer (some ⟨D, 0, none⟩), l, .int .u8 x] w (TPost B D (thenK L x) w) := by
  have h2 := h.cell (i := 0) rfl
  have hf := h.frozen 0
  have HD := hide (h.set 0 (.iface 9 (.string ⟨#[]⟩)))
  have HE := hide (Ex.set w D 0 (.iface 9 (.string ⟨#[]⟩)))
  have HL := hide (hl.off h decKey 0 (.iface 9 (.string ⟨#[]⟩)))
  have HU := hide (fun W (hW : Ex [D] w W) => utabs_ex hT hW (fun k hk => by have : k = D := (by simpa using hk); rw [this]; exact hs))
  have HS := hide (show (w.setCell ⟨D, 0, none⟩ (.iface 9 (.string ⟨#[]⟩))).heap.size = w.heap.size by simp [World.setCell])
  have HF := hide (show (firstK x).2.length ≤ 1 from first_keys x)
  clear h hl hT hs
  go_enter Tryd.func50, Tryd.ntmps50
  go_wp2_with fail
  refine (first_any D x _ (HU.out _ HE.out) h0 h1 HD.out).mono ?_
  rintro e w1 ⟨v1, rfl, ho, hn, hD1, hx1⟩
  have HO1 := hide (HL.out.ex HD.out decKey hx1)
  have HK1 := hide (ho.keys hn)
  have HD1 := hide hD1
  have HX1 := hide (HE.out.trans hx1 (fun x hx => .inl hx))
  have hz : B ≤ w1.heap.size := by have := HX1.out.size; omega
  clear ho hn hD1 hx1 h2 hf
  go_wp2_with (at_builtin; refine wpList_keys w1 rfl (.tmp 11) (.tmp 14) rfl B hz _ _ _ _ rfl rfl HO1.out HK1.out (by have := HF.out; omega) ?_; intro v2 w2 hown hg hb2 hnil)
  have HO2 := hide hown
  have HD2 := hide (HD1.out.keep hg (HO1.out.ne HD1.out decKey))
  have HX2 := hide ((HX1.out.up hB).grown hg (own_ge HO1.out) hz)
  clear hown hg hb2 hnil
  go_wp2_with fail
  go_ret
  exact ⟨_, rfl, HO2.out, HD2.out, HX2.out⟩
end Go.Proofs.YtiilgeinkocanaaDoor
