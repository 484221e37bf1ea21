/- A fact that the walk's simp does not look into. The frame of a law's proof: a call that answers true, and of which 'Below' is known, meets its specification. Opening a slice whose elements are laid in k cells each, whatever they are. A block that is known whole. No program in sight. regs' reader: next, take, skip, need. regs: digit, escaped, letter. regs: letter. regs.span. regs: nodes, where they lie. regs: bracket. regs: atom. -/
import Derived.WalkKit
import Derived.Test.YtfamoikmfbpigaaDoorRows
import Derived.ProofKit
import Derived.OpenShut
import Derived.ShutString
import Derived.SliceStrings
import Derived.SizedLaws
import Derived.JoinedCond
import Derived.Below
import Derived.RangeFuncBox
import Derived.OwnWalk
import Derived.Deep.QuietTactic
import Derived.Test.YtfamoikmfbpigaaDoorShelf
import Derived.WalkSpells
import Derived.WalkLawsBesides
import Derived.Handy
import Derived.BigQuiet
import Derived.Deep.RegionHeld3
import Derived.Laws.Bits64b
import Derived.Laws.Bits64
import Derived.Laws.Rows
import Derived.Deep.DeepCutAuto
import Derived.Deep.CutBlock
namespace Go.Proofs.YtfamoikmfbpigaaDoor
open Go.RowKit

theorem hide {p : Prop} (h : p) : Hid p := h
end Go.Proofs.YtfamoikmfbpigaaDoor
namespace Go.Proofs.YtfamoikmfbpigaaDoor
open Go.ChangeShapes Go.WideShapes Go.ChangeAt Go.RowKit
open Go.ChangeMaps (open_string)

theorem own : ownKnob Tryd.prog.godebug = none := by kernel_rfl
theorem laidOut : laidOutB Tryd.prog = true := by kernel_rfl

section
variable {H : Type} {enc : TypeId × Value → H}
theorem trodAll_below {W W' : World} (hb : Below W.heap.size W W') {sp : Nat → Bool} : ∀ {ts : List TypeId} {vs : List Value} {ds : List (DataW H)} {ps : List MemPlace},
    (∀ t ∈ ts, Tryd.prog.readableRec t = true ∧ t < Tryd.prog.types.size) → DataW.TrodAll enc Tryd.prog W 0 (fun _ => true) true ts vs ds ps → (∀ x ∈ ps, x.block < W.heap.size) → (∀ x ∈ ps, sp x.block = true) →
    DataW.TrodAll enc Tryd.prog W' 0 sp true ts vs ds ps
  | [], [], [], _, _, h, _, _ => h
  | _ :: _, _ :: _, _ :: _, _, ht, ⟨p, q, h1, h2, e⟩, hlt, hs =>
    ⟨p, q, WideElems.Trod_stays laidOut (ht _ (List.mem_cons_self ..)).1 (ht _ (List.mem_cons_self ..)).2 h1 (fun x hx => hb.same (hlt x (by rw [e]; exact List.mem_append_left _ hx))) (fun x hx => hs x (by rw [e]; exact List.mem_append_left _ hx)),
      trodAll_below hb (fun t h => ht t (List.mem_cons_of_mem _ h)) h2 (fun x hx => hlt x (by rw [e]; exact List.mem_append_right _ hx)) (fun x hx => hs x (by rw [e]; exact List.mem_append_right _ hx)), e⟩
  | [], [], _ :: _, _, _, h, _, _ => h.elim
  | [], _ :: _, _, _, _, h, _, _ => h.elim
  | _ :: _, [], _, _, _, h, _, _ => h.elim
  | _ :: _, _ :: _, [], _, _, h, _, _ => h.elim
theorem trodAll_length {P : Program} {W : World} {b : Nat} {sp : Nat → Bool} {hd : Bool} : ∀ {ts : List TypeId} {vs : List Value} {ds : List (DataW H)} {ps : List MemPlace}, DataW.TrodAll enc P W b sp hd ts vs ds ps → ds.length = ts.length
  | [], [], [], _, _ => rfl
  | _ :: _, _ :: _, _ :: _, _, ⟨_, _, _, h2, _⟩ => by simp [trodAll_length h2]
  | [], [], _ :: _, _, h => h.elim
  | [], _ :: _, _, _, h => h.elim
  | _ :: _, [], _, _, h => h.elim
  | _ :: _, _ :: _, [], _, h => h.elim

/-- A call that answered true, and let all that lay there be as it was, meets the law's specification. -/
theorem law_post {f : Func} {s : ChangeSpec} {tb : TypeId} {W W' : World} {args : Array Value} {ds gs : List (DataW H)} {before : List MemPlace}
    (hv : s.vars = []) (hfn : ∀ ds : List (DataW H), ds.length = f.params.size → s.fn H ds = { results := [.lit (.bool true)], args := ds })
    (hr : f.resultTypes = #[tb]) (htb : Tryd.prog.underlying tb = some .bool) (hts : ∀ t ∈ f.params.toList, Tryd.prog.readableRec t = true ∧ t < Tryd.prog.types.size)
    (hW : DataW.Whole enc Tryd.prog f.params.toList s.vars false W args.toList ds gs before) (hb : Below W.heap.size W W') :
    s.post enc Tryd.prog f false true false false W args (.bool true) W' := by
  have hW' := hW
  have hlt : ∀ p ∈ before, p.block < W.heap.size := fun p hp => hW.lt p hp
  obtain ⟨p, q, hA, hV, e, _, _⟩ := hW
  rw [hv] at hV
  obtain ⟨rfl, rfl⟩ := trodVars_none hV
  simp only [List.append_nil] at e
  subst e
  have hl := trodAll_length hA
  have hF := hfn ds (by simpa using hl)
  refine ⟨ds, [], before, [], before, [], hW', ?_, ?_, ?_, ?_, fun h => by cases h⟩
  · rw [List.append_nil, hF, hr]
    exact trodAll_cons_mk (shut_bool htb true) trodAll_mk0
  · rw [List.append_nil, hF]
    exact trodAll_below hb hts hA hlt (fun x hx => by simpa using hlt x hx)
  · rw [hv, List.append_nil, hF]; rfl
  · exact World.keptBut_mono (fun p hp => ⟨hp, by simpa using hp⟩) (hb.frame (· ∈ before))

theorem okWide_array {P : Program} {w : World} {r : Reach} {b : Nat} {t e : TypeId} {n : Nat} {v : Value} (ht : P.underlying t = some (.array n e)) (h : Value.okWide P w r b t v) : ∃ cs, v = .agg cs ∧ cs.size = P.cellsOf t := by
  unfold Value.okWide at h
  rw [ht] at h
  obtain ⟨cs, e, hs, _⟩ := h
  exact ⟨cs, e, hs⟩
end
end Go.Proofs.YtfamoikmfbpigaaDoor
namespace Go.Proofs.YtfamoikmfbpigaaDoor
open Go.ChangeShapes Go.WideShapes Go.ChangeAt Go.RowKit

theorem okWide_structP {P : Program} {w : World} {r : Reach} {b : Nat} {t : TypeId} {fs : Array Field} {v : Value} (ht : P.underlying t = some (.struct fs)) (h : Value.okWide P w r b t v) : ∃ cs, v = .agg cs ∧ cs.size = P.cellsOf t := by
  unfold Value.okWide at h
  rw [ht] at h
  obtain ⟨cs, e, hs, _⟩ := h
  exact ⟨cs, e, hs⟩
theorem wfB {n : Int} (h : (Lit.int .u8 n).wf = true) : 0 ≤ n ∧ n ≤ 255 := by
  simp [Lit.wf] at h
  exact h
theorem wfI {n : Int} (h : (Lit.int .i64 n).wf = true) : -9223372036854775808 ≤ n ∧ n ≤ 9223372036854775807 := by
  simp [Lit.wf] at h
  exact h
theorem wfR {n : Int} (h : (Lit.int .i32 n).wf = true) : -2147483648 ≤ n ∧ n ≤ 2147483647 := by
  simp [Lit.wf] at h
  exact h

/-- Where the elements of a row lie, each in k cells. -/
def RowOf {α : Type} (W : World) (k : Nat) (f : α → List Value) (A : Option Addr) (l : List α) : Prop :=
  ∀ j x, l[j]? = some x → ∃ b o, A = some ⟨b, o, none⟩ ∧ b < W.heap.size ∧ ∀ i u, (f x)[i]? = some u → W.cell? ⟨b, o + j * k + i, none⟩ = some u
theorem RowOf.below {α : Type} {A W : World} {k : Nat} {f : α → List Value} {a : Option Addr} {l : List α} (h : RowOf A k f a l) (hb : Below A.heap.size A W) : RowOf W k f a l := by
  intro j x hx
  obtain ⟨b, o, e, hlt, hc⟩ := h j x hx
  exact ⟨b, o, e, Nat.lt_of_lt_of_le hlt hb.size, fun i u hu => (hb.cell (p := ⟨b, o + j * k + i, none⟩) hlt).trans (hc i u hu)⟩

theorem build_list {α : Type} (p : Nat → α → Prop) : ∀ n, (∀ i, i < n → ∃ a, p i a) → ∃ l : List α, l.length = n ∧ ∀ i a, l[i]? = some a → p i a
  | 0, _ => ⟨[], rfl, fun i a h => by simp at h⟩
  | n + 1, h => by
    obtain ⟨l, hl, hp⟩ := build_list p n (fun i hi => h i (by omega))
    obtain ⟨a, ha⟩ := h n (by omega)
    refine ⟨l ++ [a], by simp [hl], fun i b hb => ?_⟩
    by_cases hi : i < n
    · rw [List.getElem?_append_left (by omega)] at hb
      exact hp i b hb
    · have := (List.getElem?_eq_some_iff.1 hb).1
      simp [hl] at this
      obtain rfl : i = n := by omega
      rw [List.getElem?_append_right (by omega), hl, Nat.sub_self] at hb
      obtain rfl : a = b := by simpa using hb
      exact ha

section
variable {H : Type} {enc : TypeId × Value → H}
theorem rows_of_cells {P : Program} {α : Type} {w : World} {t e : TypeId} {cs : List Value} {x : DataW H × List MemPlace} {fuel : Nat} (k : Nat) (hk : 0 < k) (f : α → List Value) (R : α → Prop)
    (ht : P.underlying t = some (.slice e)) (hc : P.cellsOf e = k)
    (hel : ∀ (n : Nat) (cs : List Value) (x : DataW H × List MemPlace), cs.length = k → DataW.trod enc P w 0 (fun _ => true) true n e cs = some x → ∃ a : α, cs = f a ∧ R a)
    (hf : DataW.trod enc P w 0 (fun _ => true) true fuel t cs = some x) :
    ∃ (A : Option Addr) (cap : Nat) (l : List α), cs = [.slice A l.length cap] ∧ l.length ≤ cap ∧ cap ≤ maxLen ∧ (∀ x ∈ l, R x) ∧ (A = none → cap = 0) ∧ RowOf w k f A l := by
  rcases DataW.trod_slice ht hf with ⟨hcs, _⟩ | ⟨a, len, cap, elems, rest, n, rfl, hcs, _, _, hlen, hcap, hel2, hi, _, _⟩
  · exact ⟨none, 0, [], by rw [hcs]; rfl, Nat.le_refl _, by unfold maxLen; omega, fun x h => by simp at h, fun _ => rfl, fun j x h => by simp at h⟩
  · rw [hc] at hi
    obtain ⟨l, hl, hp⟩ := build_list (fun i (y : α) => R y ∧ ∃ b o, some a = some (⟨b, o, none⟩ : Addr) ∧ b < w.heap.size ∧ ∀ q u, (f y)[q]? = some u → w.cell? ⟨b, o + i * k + q, none⟩ = some u) len (fun i hlt => by
      have h1 := hi i hlt
      rw [List.getElem?_eq_getElem (show i < elems.length by omega)] at h1
      obtain ⟨cs', h2, h3⟩ := Option.bind_eq_some_iff.1 h1
      obtain ⟨_, h4, h5⟩ := World.cells?_some h2
      obtain ⟨y, rfl, hy⟩ := hel n cs' _ h4 h3
      obtain ⟨b, off, spot⟩ := a
      have hspot : spot = none := by
        have g1 := hi 0 (by omega)
        rw [List.getElem?_eq_getElem (show 0 < elems.length by omega)] at g1
        obtain ⟨cs0, g2, _⟩ := Option.bind_eq_some_iff.1 g1
        obtain ⟨_, g4, g5⟩ := World.cells?_some g2
        have g6 := g5 0 hk
        rw [List.getElem?_eq_getElem (by omega)] at g6
        simpa [Addr.add] using World.cell?_spot g6
      subst hspot
      have hc0 := h5 0 hk
      rw [List.getElem?_eq_getElem (by omega)] at hc0
      simp only [Addr.add_lit] at hc0 h5
      refine ⟨y, hy, b, off, rfl, World.block_lt_of_cell? _ _ hc0, fun q u hu => ?_⟩
      rw [h5 q (by have := (List.getElem?_eq_some_iff.1 hu).1; omega)]
      exact hu)
    refine ⟨some a, cap, l, by rw [hcs, hl], by omega, hcap, fun x hx => ?_, (fun e => by cases e), fun j x hx => (hp j x hx).2⟩
    obtain ⟨i, hlt, rfl⟩ := List.getElem_of_mem hx
    exact (hp i _ (List.getElem?_eq_getElem hlt)).1
theorem open_rows {P : Program} {α : Type} {w : World} {t e : TypeId} {v : Value} {d : DataW H} {p : List MemPlace} {b0 : Nat} (k : Nat) (hk : 0 < k) (f : α → List Value) (R : α → Prop)
    (ht : P.underlying t = some (.slice e)) (hc : P.cellsOf e = k)
    (hel : ∀ (n : Nat) (cs : List Value) (x : DataW H × List MemPlace), cs.length = k → DataW.trod enc P w 0 (fun _ => true) true n e cs = some x → ∃ a : α, cs = f a ∧ R a)
    (hv : Value.okWide P w .any b0 t v) (h : DataW.Trod enc P w 0 (fun _ => true) true t v d p) :
    ∃ (A : Option Addr) (cap : Nat) (l : List α), v = .slice A l.length cap ∧ l.length ≤ cap ∧ cap ≤ maxLen ∧ (∀ x ∈ l, R x) ∧ (A = none → cap = 0) ∧ RowOf w k f A l := by
  obtain ⟨a0, len, cap, rfl⟩ := okWide_slice ht hv
  obtain ⟨fuel, hf⟩ := h
  obtain ⟨A, cap', l, e1, r⟩ := rows_of_cells k hk f R ht hc hel hf
  simp [Value.cells] at e1
  obtain ⟨rfl, rfl, rfl⟩ := e1
  exact ⟨_, _, l, rfl, r⟩
end
end Go.Proofs.YtfamoikmfbpigaaDoor
namespace Go.Proofs.YtfamoikmfbpigaaDoor
open Go.RowKit

/-- The block's cells are these, of type t, and may be written. -/
def Blk (W : World) (b : Nat) (t : TypeId) (cs : List Value) : Prop := W.heap[b]? = some (.cells cs.toArray t (0, 0))
theorem Blk.lt {W : World} {b : Nat} {t : TypeId} {cs : List Value} (h : Blk W b t cs) : b < W.heap.size := (Array.getElem?_eq_some_iff.1 h).1
theorem Blk.cell {W : World} {b : Nat} {t : TypeId} {cs : List Value} (h : Blk W b t cs) {i : Nat} {u : Value} (hi : cs[i]? = some u) : W.cell? ⟨b, i, none⟩ = some u := by
  simp [World.cell?, show W.heap[b]? = _ from h, hi]
theorem Blk.frozen {W : World} {b : Nat} {t : TypeId} {cs : List Value} (h : Blk W b t cs) (i : Nat) : W.frozen? ⟨b, i, none⟩ = false := by
  simp [World.frozen?, show W.heap[b]? = _ from h]
theorem Blk.new (W : World) (t : TypeId) (cs : List Value) : Blk (W.alloc (.cells cs.toArray t)) W.heap.size t cs := World.alloc_heap_new W _
theorem Blk.below {W W' : World} {b : Nat} {t : TypeId} {cs : List Value} (h : Blk W b t cs) (hb : Below W.heap.size W W') : Blk W' b t cs := (hb.block b h.lt).trans h
theorem Blk.under {B : Nat} {W W' : World} {b : Nat} {t : TypeId} {cs : List Value} (h : Blk W b t cs) (hb : Below B W W') (hl : b < B) : Blk W' b t cs := (hb.block b hl).trans h
theorem Blk.alloc {W : World} {b : Nat} {t : TypeId} {cs : List Value} (h : Blk W b t cs) (o : Obj) : Blk (W.alloc o) b t cs := h.below ((Below.refl _ _).alloc (Nat.le_refl _) _)
theorem Blk.drewN {W : World} {b : Nat} {t : TypeId} {cs : List Value} (h : Blk W b t cs) (n : Nat) : Blk (W.drewN n) b t cs := h
theorem Blk.drew {W : World} {b : Nat} {t : TypeId} {cs : List Value} (h : Blk W b t cs) : Blk W.drew b t cs := h
theorem Blk.set {W : World} {b : Nat} {t : TypeId} {cs : List Value} (h : Blk W b t cs) (i : Nat) (v : Value) : Blk (W.setCell ⟨b, i, none⟩ v) b t (cs.set i v) := by
  obtain ⟨hlt, hk⟩ := Array.getElem?_eq_some_iff.1 h
  show (W.heap.modify b _)[b]? = _
  rw [Array.getElem?_eq_getElem (by rw [Array.size_modify]; exact hlt), Array.getElem_modify_self, hk]
  simp
theorem Blk.far {W : World} {b : Nat} {t : TypeId} {cs : List Value} (h : Blk W b t cs) {p : Addr} (hp : p.block ≠ b) (v : Value) : Blk (W.setCell p v) b t cs :=
  (Below.heap_setCell _ _ _ _ (fun e => hp e.symm)).trans h
end Go.Proofs.YtfamoikmfbpigaaDoor
namespace Go.Proofs.YtfamoikmfbpigaaDoor
open Go.RowKit

/-- The reader at block p: the rest of its text. -/
def Rd (W : World) (p : Nat) (s : ByteArray) : Prop := Blk W p 60 [.string s]
theorem ne_emp {s : ByteArray} (h : s.size ≠ 0) : (s.toList == []) = false := by
  rw [ByteArray.toList_eq]
  cases hh : s.data.toList with
  | nil => exact absurd (by show s.data.toList.length = 0; rw [hh]; rfl) h
  | cons a l => rfl
theorem is_emp {s : ByteArray} (h : s.size = 0) : s = ⟨#[]⟩ := by
  cases s with | mk d => cases d with | mk l => cases l with | nil => rfl | cons a l => simp [ByteArray.size] at h
/-- The panic of a text that is no rule's. -/
abbrev panE : Ending := .panicked [{ v := .iface 57 (.agg #[]), recovered := false }]
/-- Only the reader's cell is written, and new blocks. -/
structure KeepR (p : Nat) (W V : World) : Prop where
  os : V.os = W.os
  tape : V.tape = W.tape
  output : V.output = W.output
  size : W.heap.size ≤ V.heap.size
  block : ∀ b, b < W.heap.size → b ≠ p → V.heap[b]? = W.heap[b]?
theorem KeepR.of {p : Nat} {W V : World} (h : Below W.heap.size W V) : KeepR p W V := ⟨h.os, h.tape, h.output, h.size, fun b hb _ => h.block b hb⟩
theorem KeepR.refl (p : Nat) (W : World) : KeepR p W W := KeepR.of (Below.refl _ _)
theorem KeepR.trans {p : Nat} {A W V : World} (h : KeepR p A W) (h2 : KeepR p W V) : KeepR p A V :=
  ⟨h2.os.trans h.os, h2.tape.trans h.tape, h2.output.trans h.output, Nat.le_trans h.size h2.size, fun b hb hne => (h2.block b (Nat.lt_of_lt_of_le hb h.size) hne).trans (h.block b hb hne)⟩
theorem KeepR.set (p : Nat) (W : World) (v : Value) : KeepR p W (W.setCell ⟨p, 0, none⟩ v) :=
  ⟨rfl, rfl, rfl, by unfold World.setCell; simp, fun b _ hne => Below.heap_setCell _ _ _ _ hne⟩
theorem KeepR.blk {p b : Nat} {W V : World} {t : TypeId} {cs : List Value} (h : KeepR p W V) (hb : Blk W b t cs) (hne : b ≠ p) : Blk V b t cs := (h.block b hb.lt hne).trans hb
theorem KeepR.cell {p b o : Nat} {W V : World} {u : Value} (h : KeepR p W V) (hc : W.cell? ⟨b, o, none⟩ = some u) (hne : b ≠ p) : V.cell? ⟨b, o, none⟩ = some u :=
  (World.cell?_of_block (h.block b (World.block_lt_of_cell? _ _ hc) hne)).trans hc
theorem Rd.lt {W : World} {p : Nat} {s : ByteArray} (h : Rd W p s) : p < W.heap.size := Blk.lt h
theorem Rd.below {w W : World} {p : Nat} {s : ByteArray} (h : Rd w p s) (hb : Below w.heap.size w W) : Rd W p s := Blk.below h hb
set_option maxRecDepth 100000 in
theorem take_none (p : Nat) (w : World) (h : Rd w p ⟨#[]⟩) : Calls Tryd.prog 62 #[.pointer (some ⟨p, 0, none⟩)] w fun e w' => e = panE ∧ w = w' := by
  have r0 := h.cell (i := 0) rfl
  clear h
  go_enter Tryd.func62, Tryd.ntmps62
  go_wp2
  exact ⟨rfl, rfl, rfl⟩
set_option maxRecDepth 100000 in
theorem take_some (p : Nat) (s : ByteArray) (w : World) (h : Rd w p s) (h0 : 0 < s.size) (hm : s.size ≤ 1000000) : Calls Tryd.prog 62 #[.pointer (some ⟨p, 0, none⟩)] w fun e w' => e = .returned (.int .u8 (s[0].toNat : Int)) ∧ Rd w' p (s.extract 1 s.size) ∧ KeepR p w w' := by
  have r0 := h.cell (i := 0) rfl
  have rf := h.frozen 0
  have he := ne_emp (s := s) (by omega)
  have H := hide h
  clear h
  go_enter Tryd.func62, Tryd.ntmps62
  go_wp2
  go_ret
  exact ⟨rfl, Blk.set H.out 0 _, KeepR.set _ _ _⟩
/-- The next byte; 0 at the end. -/
def nextB (s : ByteArray) : Nat := if h : 0 < s.size then s[0].toNat else 0
set_option maxRecDepth 100000 in
theorem rnext_any (p : Nat) (s : ByteArray) (w : World) (h : Rd w p s) (hm : s.size ≤ 1000000) : Calls Tryd.prog 61 #[.pointer (some ⟨p, 0, none⟩)] w fun e w' => e = .returned (.int .u8 (nextB s : Int)) ∧ w = w' := by
  have r0 := h.cell (i := 0) rfl
  clear h
  by_cases h0 : 0 < s.size
  · have he := ne_emp (s := s) (by omega)
    have HN := hide (show nextB s = s[0].toNat from dif_pos h0)
    go_enter Tryd.func61, Tryd.ntmps61
    go_wp2
    go_ret
    exact ⟨by rw [HN.out]; rfl, rfl⟩
  · obtain rfl := is_emp (s := s) (by omega)
    go_enter Tryd.func61, Tryd.ntmps61
    go_wp2
    go_ret
    exact ⟨rfl, rfl⟩
/-- Is this byte next? -/
def isB (s : ByteArray) (b : Nat) : Bool := if h : 0 < s.size then s[0].toNat == b else false
def skipS (s : ByteArray) (b : Nat) : ByteArray := if isB s b = true then s.extract 1 s.size else s
set_option maxRecDepth 100000 in
theorem skip_any (p : Nat) (s : ByteArray) (b : Nat) (w : World) (h : Rd w p s) (hm : s.size ≤ 1000000) : Calls Tryd.prog 38 #[.pointer (some ⟨p, 0, none⟩), .int .u8 (b : Int)] w fun e w' => e = .returned (.bool (isB s b)) ∧ Rd w' p (skipS s b) ∧ KeepR p w w' := by
  have r0 := h.cell (i := 0) rfl
  have rf := h.frozen 0
  have H := hide h
  clear h
  by_cases h0 : 0 < s.size
  · have he := ne_emp (s := s) (by omega)
    by_cases hb : s[0].toNat = b
    · have HB := hide (show isB s b = true by unfold isB; rw [dif_pos h0]; simpa using hb)
      have HS := hide (show skipS s b = s.extract 1 s.size by unfold skipS; rw [if_pos HB.out])
      have q1 : ((s[0].toNat : Int) != (b : Int)) = false := by simp; omega
      clear hb
      go_enter Tryd.func38, Tryd.ntmps38
      go_wp2
      go_ret
      exact ⟨by rw [HB.out]; rfl, by rw [HS.out]; exact Blk.set H.out 0 _, KeepR.set _ _ _⟩
    · have HB := hide (show isB s b = false by unfold isB; rw [dif_pos h0]; simpa using hb)
      have HS := hide (show skipS s b = s by unfold skipS; rw [if_neg (by rw [HB.out]; decide)])
      have q1 : ((s[0].toNat : Int) != (b : Int)) = true := by simp; omega
      clear hb
      go_enter Tryd.func38, Tryd.ntmps38
      go_wp2
      go_ret
      exact ⟨by rw [HB.out]; rfl, by rw [HS.out]; exact H.out, KeepR.refl _ _⟩
  · obtain rfl := is_emp (s := s) (by omega)
    go_enter Tryd.func38, Tryd.ntmps38
    go_wp2
    go_ret
    exact ⟨rfl, H.out, KeepR.refl _ _⟩
set_option maxRecDepth 100000 in
theorem need_yes (p : Nat) (s : ByteArray) (b : Nat) (w : World) (h : Rd w p s) (hm : s.size ≤ 1000000) (hb : isB s b = true) : Calls Tryd.prog 69 #[.pointer (some ⟨p, 0, none⟩), .int .u8 (b : Int)] w fun e w' => e = .returned (.tuple #[]) ∧ Rd w' p (s.extract 1 s.size) ∧ KeepR p w w' := by
  have HK := hide (skip_any p s b w h hm)
  have HK := HK.out
  rw [hb, show skipS s b = s.extract 1 s.size from if_pos hb] at HK
  have HK := hide HK
  clear hb h
  go_enter Tryd.func69, Tryd.ntmps69
  go_wp2_with fail
  refine HK.out.mono ?_; rintro e w1 ⟨rfl, h1, h2⟩
  go_wp2
  go_end0
  exact ⟨rfl, h1, h2⟩
set_option maxRecDepth 100000 in
theorem need_no (p : Nat) (s : ByteArray) (b : Nat) (w : World) (h : Rd w p s) (hm : s.size ≤ 1000000) (hb : isB s b = false) : Calls Tryd.prog 69 #[.pointer (some ⟨p, 0, none⟩), .int .u8 (b : Int)] w fun e w' => e = panE ∧ KeepR p w w' := by
  have HK := skip_any p s b w h hm
  rw [hb] at HK
  have HK := hide HK
  clear hb h
  go_enter Tryd.func69, Tryd.ntmps69
  go_wp2_with fail
  refine HK.out.mono ?_; rintro e w1 ⟨rfl, h1, h2⟩
  go_wp2
  exact ⟨rfl, rfl, h2⟩
end Go.Proofs.YtfamoikmfbpigaaDoor
namespace Go.Proofs.YtfamoikmfbpigaaDoor
open Go.RowKit

/-- What is taken, and the rest. -/
def tk (s : ByteArray) : Option (Nat × ByteArray) := if h : 0 < s.size then some (s[0].toNat, s.extract 1 s.size) else none
/-- A byte and the rest; or the panic. -/
def ResB (p : Nat) (w : World) (x : Option (Nat × ByteArray)) (e : Ending) (w' : World) : Prop :=
  match x with
  | some (b, s) => e = .returned (.int .u8 (b : Int)) ∧ Rd w' p s ∧ KeepR p w w'
  | none => e = panE ∧ KeepR p w w'
theorem tk_bd {s t : ByteArray} {b : Nat} (h : tk s = some (b, t)) : b < 256 ∧ t.size + 1 = s.size := by
  unfold tk at h
  split at h
  · rename_i h0
    injection h with h; injection h with h1 h2
    subst h1 h2
    exact ⟨s[0].toNat_lt, by rw [ByteArray.size_extract]; omega⟩
  · cases h
theorem take_any (p : Nat) (s : ByteArray) (w : World) (h : Rd w p s) (hm : s.size ≤ 1000000) : Calls Tryd.prog 62 #[.pointer (some ⟨p, 0, none⟩)] w (ResB p w (tk s)) := by
  by_cases h0 : 0 < s.size
  · refine (take_some p s w h h0 hm).mono ?_
    rintro e w' ⟨rfl, h1, h2⟩
    unfold tk
    rw [dif_pos h0]
    exact ⟨rfl, h1, h2⟩
  · obtain rfl := is_emp (s := s) (by omega)
    refine (take_none p w h).mono ?_
    rintro e w' ⟨rfl, rfl⟩
    exact ⟨rfl, KeepR.refl _ _⟩
def hexL : ByteArray := ⟨#[48, 49, 50, 51, 52, 53, 54, 55, 56, 57, 97, 98, 99, 100, 101, 102]⟩
def spcL : ByteArray := ⟨#[40, 41, 91, 93, 124, 42, 43, 63, 46, 92, 45, 94]⟩
def dgI (b : Nat) : Int := Lib.indexByte hexL.data.toList (bits .or .u8 (b : Int) 32).toNat.toUInt8
def digE (b : Nat) : Option Nat := if dgI b < 0 ∨ b < 48 then none else some (dgI b).toNat
def specE (b : Nat) : Bool := decide (0 ≤ Lib.indexByte spcL.data.toList b.toUInt8)
theorem dg_bd : ∀ b, b < 256 → -1 ≤ dgI b ∧ dgI b ≤ 15 := by decide +kernel
theorem ret_u8 {a b : Int} (h : a = b) : Ending.returned (.int .u8 a) = .returned (.int .u8 b) := by rw [h]
def DigP (b : Nat) (e : Ending) : Prop := e = (match digE b with | some d => .returned (.int .u8 (d : Int)) | none => panE)
theorem DigP.no {b : Nat} (h : digE b = none) : DigP b panE := by unfold DigP; rw [h]
theorem DigP.yes {b d : Nat} {n : Int} (h : digE b = some d) (hn : n = d) : DigP b (.returned (.int .u8 n)) := by unfold DigP; rw [h, hn]
set_option maxRecDepth 100000 in
theorem digit_any (b : Nat) (w : World) (hb : b < 256) : Calls Tryd.prog 80 #[.int .u8 (b : Int)] w fun e w' => DigP b e ∧ w = w' := by
  have hbd := dg_bd b hb
  have HI := hide (Tryd.strings_IndexByte hexL (bits .or .u8 (b : Int) 32) w)
  unfold hexL at HI
  obtain ⟨n, hn⟩ : ∃ n, dgI b = n := ⟨_, rfl⟩
  have HN := hide (show Lib.indexByte (⟨#[48, 49, 50, 51, 52, 53, 54, 55, 56, 57, 97, 98, 99, 100, 101, 102]⟩ : ByteArray).data.toList (bits .or .u8 (b : Int) 32).toNat.toUInt8 = n from hn)
  rw [hn] at hbd
  by_cases h1 : n < 0
  · have HD := hide (show digE b = none by unfold digE; rw [hn, if_pos (.inl h1)])
    clear hn
    go_enter Tryd.func80, Tryd.ntmps80
    go_wp2_with fail
    refine HI.out.mono ?_; rw [HN.out]; rintro e w1 ⟨rfl, rfl⟩
    go_wp2
    exact ⟨rfl, DigP.no HD.out, rfl⟩
  by_cases h2 : b < 48
  · have HD := hide (show digE b = none by unfold digE; rw [if_pos (.inr h2)])
    have h2' : (b : Int) < 48 := by omega
    clear hn
    go_enter Tryd.func80, Tryd.ntmps80
    go_wp2_with fail
    refine HI.out.mono ?_; rw [HN.out]; rintro e w1 ⟨rfl, rfl⟩
    go_wp2
    exact ⟨rfl, DigP.no HD.out, rfl⟩
  · have HD := hide (show digE b = some n.toNat by unfold digE; rw [hn, if_neg (by omega)])
    have h2' : ¬ (b : Int) < 48 := by omega
    have hw : IntKind.u8.wrap n = n := by simp [IntKind.wrap_u8]; omega
    clear hn
    go_enter Tryd.func80, Tryd.ntmps80
    go_wp2_with fail
    refine HI.out.mono ?_; rw [HN.out]; rintro e w1 ⟨rfl, rfl⟩
    go_wp2
    go_ret
    exact ⟨DigP.yes HD.out (show n = (n.toNat : Int) by omega), rfl⟩
theorem DigP.is_no {b : Nat} {e : Ending} (h : digE b = none) (he : DigP b e) : e = panE := by unfold DigP at he; rw [h] at he; exact he
theorem DigP.is_yes {b d : Nat} {e : Ending} (h : digE b = some d) (he : DigP b e) : e = .returned (.int .u8 (d : Int)) := by unfold DigP at he; rw [h] at he; exact he
/-- The byte behind a stroke. -/
def escE (s : ByteArray) : Option (Nat × ByteArray) :=
  match tk s with
  | none => none
  | some (b, s1) =>
    if b = 110 then some (10, s1) else if b = 116 then some (9, s1) else if b = 114 then some (13, s1)
    else if b = 120 then
      match tk s1 with
      | none => none
      | some (x, s2) => match digE x with
        | none => none
        | some h => match tk s2 with
          | none => none
          | some (y, s3) => match digE y with
            | none => none
            | some l => some (h * 16 + l, s3)
    else if specE b = true then some (b, s1) else none
theorem dig_bd {b d : Nat} (hb : b < 256) (h : digE b = some d) : d ≤ 15 := by
  have := dg_bd b hb
  unfold digE at h
  split at h
  · cases h
  · injection h with h; omega
theorem hex2 : ∀ h : Nat, h < 16 → ∀ l : Nat, l < 16 → bits .or .u8 ((h : Int) * 16) (l : Int) = (h : Int) * 16 + (l : Int) := by decide +kernel
set_option maxHeartbeats 2000000 in
set_option maxRecDepth 100000 in
theorem esc_any (p : Nat) (s : ByteArray) (w : World) (h : Rd w p s) (hm : s.size ≤ 1000000) : Calls Tryd.prog 72 #[.pointer (some ⟨p, 0, none⟩)] w (ResB p w (escE s)) := by
  have HT := hide (take_any p s w h hm)
  have HT := HT.out
  cases ht : tk s with
  | none =>
    have HE := hide (show escE s = none by unfold escE; rw [ht])
    rw [ht] at HT
    have HT := hide HT
    clear ht h
    go_enter Tryd.func72, Tryd.ntmps72
    go_wp2_with fail
    refine HT.out.mono ?_; rintro e w1 ⟨rfl, h1⟩
    go_wp2_with fail
    exact ⟨rfl, by rw [HE.out]; exact ⟨rfl, h1⟩⟩
  | some bt =>
    obtain ⟨b, t⟩ := bt
    have hbd := tk_bd ht
    rw [ht] at HT
    have HT := hide HT
    have HX := hide ht
    clear ht h
    by_cases b110 : b = 110
    · subst b110
      have HE := hide (show escE s = some (10, t) by unfold escE; rw [HX.out]; rfl)
      go_enter Tryd.func72, Tryd.ntmps72
      go_wp2_with fail
      refine HT.out.mono ?_; rintro e w1 ⟨rfl, h1, h2⟩
      go_wp2
      go_ret
      rw [HE.out]
      exact ⟨rfl, h1, h2⟩
    by_cases b116 : b = 116
    · subst b116
      have HE := hide (show escE s = some (9, t) by unfold escE; rw [HX.out]; rfl)
      go_enter Tryd.func72, Tryd.ntmps72
      go_wp2_with fail
      refine HT.out.mono ?_; rintro e w1 ⟨rfl, h1, h2⟩
      go_wp2
      go_ret
      rw [HE.out]
      exact ⟨rfl, h1, h2⟩
    by_cases b114 : b = 114
    · subst b114
      have HE := hide (show escE s = some (13, t) by unfold escE; rw [HX.out]; rfl)
      go_enter Tryd.func72, Tryd.ntmps72
      go_wp2_with fail
      refine HT.out.mono ?_; rintro e w1 ⟨rfl, h1, h2⟩
      go_wp2
      go_ret
      rw [HE.out]
      exact ⟨rfl, h1, h2⟩
    have q110 : ((b : Int) == 110) = false := by simp; omega
    have q116 : ((b : Int) == 116) = false := by simp; omega
    have q114 : ((b : Int) == 114) = false := by simp; omega
    by_cases b120 : b = 120
    · subst b120
      have ht1 : t.size ≤ 1000000 := by omega
      clear q110 q116 q114
      have HT1 := fun W h => take_any p t W h ht1
      cases hx : tk t with
      | none =>
        have HE := hide (show escE s = none by unfold escE; rw [HX.out]; simp [hx])
        rw [hx] at HT1
        have HT1 := hide HT1
        clear hx
        go_enter Tryd.func72, Tryd.ntmps72
        go_wp2_with fail
        refine HT.out.mono ?_; rintro e w1 ⟨rfl, h1, h2⟩
        have H1 := hide h1
        have K1 := hide h2
        clear h1 h2
        go_wp2_with fail
        refine (HT1.out _ H1.out).mono ?_; rintro e w2 ⟨rfl, h1⟩
        go_wp2
        exact ⟨rfl, by rw [HE.out]; exact ⟨rfl, K1.out.trans h1⟩⟩
      | some xt =>
        obtain ⟨x, t2⟩ := xt
        have hxb := tk_bd hx
        rw [hx] at HT1
        have HT1 := hide HT1
        have HX2 := hide hx
        have HD1 := hide (fun W => digit_any x W hxb.1)
        clear hx
        cases hd : digE x with
        | none =>
          have HE := hide (show escE s = none by unfold escE; rw [HX.out]; simp [HX2.out, hd])
          have HDN := hide hd
          clear hd
          go_enter Tryd.func72, Tryd.ntmps72
          go_wp2_with fail
          refine HT.out.mono ?_; rintro e w1 ⟨rfl, h1, h2⟩
          have H1 := hide h1
          have K1 := hide h2
          clear h1 h2
          go_wp2_with fail
          refine (HT1.out _ H1.out).mono ?_; rintro e w2 ⟨rfl, h1, h2⟩
          go_wp2_with fail
          refine (HD1.out _).mono ?_; rintro e w3 ⟨he, rfl⟩
          obtain rfl := DigP.is_no HDN.out he
          go_wp2
          exact ⟨rfl, by rw [HE.out]; exact ⟨rfl, K1.out.trans h2⟩⟩
        | some d =>
          have hdb := dig_bd hxb.1 hd
          have HDY := hide hd
          clear hd
          have ht2 : t2.size ≤ 1000000 := by omega
          have HT2 := fun W h => take_any p t2 W h ht2
          have hwd : IntKind.u8.wrap ((d : Int) * 16) = (d : Int) * 16 := by simp [IntKind.wrap_u8]; omega
          cases hy : tk t2 with
          | none =>
            have HE := hide (show escE s = none by unfold escE; rw [HX.out]; simp [HX2.out, HDY.out, hy])
            rw [hy] at HT2
            have HT2 := hide HT2
            clear hy
            go_enter Tryd.func72, Tryd.ntmps72
            go_wp2_with fail
            refine HT.out.mono ?_; rintro e w1 ⟨rfl, h1, h2⟩
            have H1 := hide h1
            have K1 := hide h2
            clear h1 h2
            go_wp2_with fail
            refine (HT1.out _ H1.out).mono ?_; rintro e w2 ⟨rfl, h1, h2⟩
            go_wp2_with fail
            refine (HD1.out _).mono ?_; rintro e w3 ⟨he, rfl⟩
            obtain rfl := DigP.is_yes HDY.out he
            go_wp2_with fail
            refine (HT2.out _ h1).mono ?_; rintro e w4 ⟨rfl, h3⟩
            go_wp2
            exact ⟨rfl, by rw [HE.out]; exact ⟨rfl, (K1.out.trans h2).trans h3⟩⟩
          | some yt =>
            obtain ⟨y, t3⟩ := yt
            have hyb := tk_bd hy
            rw [hy] at HT2
            have HT2 := hide HT2
            have HY2 := hide hy
            have HD2 := hide (fun W => digit_any y W hyb.1)
            clear hy
            cases hd2 : digE y with
            | none =>
              have HE := hide (show escE s = none by unfold escE; rw [HX.out]; simp [HX2.out, HDY.out, HY2.out, hd2])
              have HDN := hide hd2
              clear hd2
              go_enter Tryd.func72, Tryd.ntmps72
              go_wp2_with fail
              refine HT.out.mono ?_; rintro e w1 ⟨rfl, h1, h2⟩
              have H1 := hide h1
              have K1 := hide h2
              clear h1 h2
              go_wp2_with fail
              refine (HT1.out _ H1.out).mono ?_; rintro e w2 ⟨rfl, h1, h2⟩
              go_wp2_with fail
              refine (HD1.out _).mono ?_; rintro e w3 ⟨he, rfl⟩
              obtain rfl := DigP.is_yes HDY.out he
              go_wp2_with fail
              refine (HT2.out _ h1).mono ?_; rintro e w4 ⟨rfl, h3, h4⟩
              go_wp2_with fail
              refine (HD2.out _).mono ?_; rintro e w5 ⟨he, rfl⟩
              obtain rfl := DigP.is_no HDN.out he
              go_wp2
              exact ⟨rfl, by rw [HE.out]; exact ⟨rfl, (K1.out.trans h2).trans h4⟩⟩
            | some l =>
              have hlb := dig_bd hyb.1 hd2
              have HDY2 := hide hd2
              clear hd2
              have HE := hide (show escE s = some (d * 16 + l, t3) by unfold escE; rw [HX.out]; simp [HX2.out, HDY.out, HY2.out, HDY2.out])
              have hor := hex2 d (by omega) l (by omega)
              have HOR := hide (show (d : Int) * 16 + (l : Int) = ((d * 16 + l : Nat) : Int) by omega)
              go_enter Tryd.func72, Tryd.ntmps72
              go_wp2_with fail
              refine HT.out.mono ?_; rintro e w1 ⟨rfl, h1, h2⟩
              have H1 := hide h1
              have K1 := hide h2
              clear h1 h2
              go_wp2_with fail
              refine (HT1.out _ H1.out).mono ?_; rintro e w2 ⟨rfl, h1, h2⟩
              go_wp2_with fail
              refine (HD1.out _).mono ?_; rintro e w3 ⟨he, rfl⟩
              obtain rfl := DigP.is_yes HDY.out he
              go_wp2_with fail
              refine (HT2.out _ h1).mono ?_; rintro e w4 ⟨rfl, h3, h4⟩
              go_wp2_with fail
              refine (HD2.out _).mono ?_; rintro e w5 ⟨he, rfl⟩
              obtain rfl := DigP.is_yes HDY2.out he
              go_wp2
              go_ret
              rw [HE.out]
              exact ⟨ret_u8 HOR.out, h3, (K1.out.trans h2).trans h4⟩
    have q120 : ((b : Int) == 120) = false := by simp; omega
    have HI := hide (fun W => Tryd.strings_IndexByte spcL (b : Int) W)
    unfold spcL at HI
    obtain ⟨n, hn⟩ : ∃ n, Lib.indexByte (⟨#[40, 41, 91, 93, 124, 42, 43, 63, 46, 92, 45, 94]⟩ : ByteArray).data.toList (b : Int).toNat.toUInt8 = n := ⟨_, rfl⟩
    have HN := hide hn
    have hsp : specE b = decide (0 ≤ n) := by unfold specE spcL; rw [← hn]; rfl
    by_cases h0 : 0 ≤ n
    · have HE := hide (show escE s = some (b, t) by unfold escE; rw [HX.out]; simp [b110, b116, b114, b120, hsp, h0])
      clear hsp hn
      go_enter Tryd.func72, Tryd.ntmps72
      go_wp2_with fail
      refine HT.out.mono ?_; rintro e w1 ⟨rfl, h1, h2⟩
      have H1 := hide h1
      have K1 := hide h2
      clear h1 h2
      go_wp2_with fail
      refine (HI.out _).mono ?_; rw [HN.out]; rintro e w2 ⟨rfl, rfl⟩
      go_wp2
      go_ret
      rw [HE.out]
      exact ⟨rfl, H1.out, K1.out⟩
    · have HE := hide (show escE s = none by unfold escE; rw [HX.out]; simp [b110, b116, b114, b120, hsp, h0])
      clear hsp hn
      go_enter Tryd.func72, Tryd.ntmps72
      go_wp2_with fail
      refine HT.out.mono ?_; rintro e w1 ⟨rfl, h1, h2⟩
      have H1 := hide h1
      have K1 := hide h2
      clear h1 h2
      go_wp2_with fail
      refine (HI.out _).mono ?_; rw [HN.out]; rintro e w2 ⟨rfl, rfl⟩
      go_wp2
      exact ⟨rfl, by rw [HE.out]; exact ⟨rfl, K1.out⟩⟩
end Go.Proofs.YtfamoikmfbpigaaDoor
namespace Go.Proofs.YtfamoikmfbpigaaDoor
open Go.RowKit

/-- A letter in brackets. -/
def letE (s : ByteArray) : Option (Nat × ByteArray) :=
  match tk s with
  | none => none
  | some (b, t) => if b = 92 then escE t else if specE b = true then none else some (b, t)
theorem ResB.pre {p : Nat} {A w : World} {x : Option (Nat × ByteArray)} {e : Ending} {w' : World} (hk : KeepR p A w) (h : ResB p w x e w') : ResB p A x e w' := by
  unfold ResB at *
  cases x with
  | none => exact ⟨h.1, hk.trans h.2⟩
  | some y => exact ⟨h.1, h.2.1, hk.trans h.2.2⟩
theorem ResB.cases {p : Nat} {w : World} {x : Option (Nat × ByteArray)} {e : Ending} {w' : World} (h : ResB p w x e w') : (x = none ∧ e = panE ∧ KeepR p w w') ∨ ∃ b s, x = some (b, s) ∧ e = .returned (.int .u8 (b : Int)) ∧ Rd w' p s ∧ KeepR p w w' := by
  unfold ResB at h
  cases x with
  | none => exact .inl ⟨rfl, h.1, h.2⟩
  | some y => exact .inr ⟨y.1, y.2, rfl, h.1, h.2.1, h.2.2⟩
set_option maxHeartbeats 2000000 in
set_option maxRecDepth 100000 in
theorem let_any (p : Nat) (s : ByteArray) (w : World) (h : Rd w p s) (hm : s.size ≤ 1000000) : Calls Tryd.prog 79 #[.pointer (some ⟨p, 0, none⟩)] w (ResB p w (letE s)) := by
  have HT := take_any p s w h hm
  cases ht : tk s with
  | none =>
    have HE := hide (show letE s = none by unfold letE; rw [ht])
    rw [ht] at HT
    have HT := hide HT
    clear ht h
    go_enter Tryd.func79, Tryd.ntmps79
    go_wp2_with fail
    refine HT.out.mono ?_; rintro e w1 ⟨rfl, h1⟩
    go_wp2_with fail
    exact ⟨rfl, by rw [HE.out]; exact ⟨rfl, h1⟩⟩
  | some bt =>
    obtain ⟨b, t⟩ := bt
    have hbd := tk_bd ht
    rw [ht] at HT
    have HT := hide HT
    have HX := hide ht
    have ht1 : t.size ≤ 1000000 := by omega
    clear ht h
    by_cases b92 : b = 92
    · subst b92
      have HE := hide (show letE s = escE t by unfold letE; rw [HX.out]; rfl)
      go_enter Tryd.func79, Tryd.ntmps79
      go_wp2_with fail
      refine HT.out.mono ?_; rintro e w1 ⟨rfl, h1, h2⟩
      have K1 := hide h2
      clear h2
      go_wp2_with fail
      refine (esc_any p t _ h1 ht1).mono ?_; rintro e w2 hr
      rcases hr.cases with ⟨hx, rfl, h3⟩ | ⟨b2, t2, hx, rfl, h3, h4⟩
      · have HX2 := hide hx
        clear hr hx
        go_wp2
        exact ⟨rfl, by rw [HE.out, HX2.out]; exact ⟨rfl, K1.out.trans h3⟩⟩
      · have HX2 := hide hx
        clear hr hx
        go_wp2
        go_ret
        rw [HE.out, HX2.out]
        exact ⟨rfl, h3, K1.out.trans h4⟩
    have q92 : ((b : Int) == 92) = false := by simp; omega
    have HI := hide (fun W => Tryd.strings_IndexByte spcL (b : Int) W)
    unfold spcL at HI
    obtain ⟨n, hn⟩ : ∃ n, Lib.indexByte (⟨#[40, 41, 91, 93, 124, 42, 43, 63, 46, 92, 45, 94]⟩ : ByteArray).data.toList (b : Int).toNat.toUInt8 = n := ⟨_, rfl⟩
    have HN := hide hn
    have hsp : specE b = decide (0 ≤ n) := by unfold specE spcL; rw [← hn]; rfl
    by_cases h0 : 0 ≤ n
    · have HE := hide (show letE s = none by unfold letE; rw [HX.out]; simp [b92, hsp, h0])
      clear hsp hn
      go_enter Tryd.func79, Tryd.ntmps79
      go_wp2_with fail
      refine HT.out.mono ?_; rintro e w1 ⟨rfl, h1, h2⟩
      have K1 := hide h2
      clear h2
      go_wp2_with fail
      refine (HI.out _).mono ?_; rw [HN.out]; rintro e w2 ⟨rfl, rfl⟩
      go_wp2
      exact ⟨rfl, by rw [HE.out]; exact ⟨rfl, K1.out⟩⟩
    · have HE := hide (show letE s = some (b, t) by unfold letE; rw [HX.out]; simp [b92, hsp, h0])
      clear hsp hn
      go_enter Tryd.func79, Tryd.ntmps79
      go_wp2_with fail
      refine HT.out.mono ?_; rintro e w1 ⟨rfl, h1, h2⟩
      have H1 := hide h1
      have K1 := hide h2
      clear h1 h2
      go_wp2_with fail
      refine (HI.out _).mono ?_; rw [HN.out]; rintro e w2 ⟨rfl, rfl⟩
      go_wp2
      go_ret
      rw [HE.out]
      exact ⟨rfl, H1.out, K1.out⟩
end Go.Proofs.YtfamoikmfbpigaaDoor
namespace Go.Proofs.YtfamoikmfbpigaaDoor
open Go.RowKit

/-- A node's cells in a box. -/
def ndL (k : Int) (S : List Nat) (kids : Value) : List Value := [.int .i64 k] ++ S.map (fun (x : Nat) => Value.int .u64 (x : Int)) ++ [kids]
theorem ndL_at {k : Int} {S : List Nat} {kids : Value} {q x : Nat} (h : S[q]? = some x) : (ndL k S kids)[1 + q]? = some (.int .u64 (x : Int)) := by
  unfold ndL
  have hl := (List.getElem?_eq_some_iff.1 h).1
  rw [List.append_assoc, List.getElem?_append_right (by simp), List.getElem?_append_left (by simp; omega)]
  simp [h]
theorem ndL_set {k : Int} {S : List Nat} {kids : Value} {q y : Nat} (h : q < S.length) : (ndL k S kids).set (1 + q) (.int .u64 (y : Int)) = ndL k (S.set q y) kids := by
  unfold ndL
  rw [List.append_assoc, List.set_append_right _ _ (by simp), List.set_append_left _ _ (by simp; omega)]
  simp [List.map_set]
/-- One bit more. -/
def bitS (S : List Nat) (b : Nat) : List Nat := S.set (b / 64) (S[b / 64]?.getD 0 ||| 2 ^ (b % 64))
def spanS (S : List Nat) (a : Nat) : Nat → List Nat
  | 0 => S
  | n + 1 => bitS (spanS S a n) (a + n)
theorem bitS_len (S : List Nat) (b : Nat) : (bitS S b).length = S.length := by simp [bitS]
theorem spanS_len (S : List Nat) (a : Nat) : ∀ n, (spanS S a n).length = S.length
  | 0 => rfl
  | n + 1 => by rw [spanS, bitS_len, spanS_len S a n]
def W64 (S : List Nat) : Prop := S.length = 4 ∧ ∀ x ∈ S, x < 18446744073709551616
theorem bitS_w {S : List Nat} (h : W64 S) (b : Nat) : W64 (bitS S b) := by
  refine ⟨by rw [bitS_len]; exact h.1, fun x hx => ?_⟩
  unfold bitS at hx
  rcases List.mem_or_eq_of_mem_set hx with h1 | rfl
  · exact h.2 x h1
  · have h2 : S[b / 64]?.getD 0 < 2 ^ 64 := by
      cases e : S[b / 64]? with
      | none => decide
      | some y => exact h.2 y (List.mem_of_getElem? e)
    have h3 : 2 ^ (b % 64) < 2 ^ 64 := Nat.pow_lt_pow_right (by omega) (Nat.mod_lt _ (by omega))
    exact Nat.or_lt_two_pow h2 h3
theorem spanS_w {S : List Nat} (h : W64 S) (a : Nat) : ∀ n, W64 (spanS S a n)
  | 0 => h
  | n + 1 => bitS_w (spanS_w h a n) _
theorem or_pow (x r : Nat) (hx : x < 18446744073709551616) (hr : r < 64) : bits .or .u64 (x : Int) (IntKind.u64.wrap ((2 : Int) ^ r)) = ((x ||| 2 ^ r : Nat) : Int) := by
  have h3 : 2 ^ r < 2 ^ 64 := Nat.pow_lt_pow_right (by omega) hr
  have e : IntKind.u64.wrap ((2 : Int) ^ r) = ((2 ^ r : Nat) : Int) := by
    rw [show (2 : Int) ^ r = ((2 ^ r : Nat) : Int) by push_cast; rfl]
    obtain ⟨y, hy⟩ : ∃ y, 2 ^ r = y := ⟨_, rfl⟩
    rw [hy] at h3 ⊢
    simp [IntKind.wrap_u64]
    omega
  rw [e]
  exact bits_or_u64_nat x (2 ^ r) hx h3
theorem KeepR.setK (p o : Nat) (W : World) (v : Value) : KeepR p W (W.setCell ⟨p, o, none⟩ v) :=
  ⟨rfl, rfl, rfl, by unfold World.setCell; simp, fun b _ hne => Below.heap_setCell _ _ _ _ hne⟩
set_option maxHeartbeats 2000000 in
set_option maxRecDepth 100000 in
theorem span_any (z : Nat) (k : Int) (S : List Nat) (kids : Value) (a b : Nat) (w : World) (h : Blk w z 27 (ndL k S kids)) (hS : W64 S) (ha : a < 256) (hb : b < 256) :
    Calls Tryd.prog 71 #[.pointer (some ⟨z, 1, none⟩), .int .u8 (a : Int), .int .u8 (b : Int)] w fun e w' => e = .returned (.tuple #[]) ∧ Blk w' z 27 (ndL k (spanS S a (b + 1 - a)) kids) ∧ KeepR z w w' := by
  have H := hide h
  have HS := hide hS
  clear h hS
  go_enter Tryd.func71, Tryd.ntmps71
  go_wp2
  go_loopw [6] (fun iv wr => ∃ j : Nat, iv = .int .i64 ((a + j : Nat) : Int) ∧ j ≤ b + 1 - a ∧ Hid (Blk wr z 27 (ndL k (spanS S a j) kids)) ∧ Hid (KeepR z w wr)) (fun iv _ => b + 1 - (intOf iv).toNat)
  case atStart => exact ⟨0, rfl, by omega, H, hide (KeepR.refl _ _)⟩
  case round =>
    clear H
    obtain ⟨j, rfl, hj, H, HK⟩ := hrel
    obtain ⟨i, hi⟩ : ∃ i, a + j = i := ⟨_, rfl⟩
    rw [hi]
    by_cases hle : i ≤ b
    · have hle1 : (i : Int) ≤ (b : Int) := by omega
      obtain ⟨q, hq⟩ : ∃ q, i / 64 = q := ⟨_, rfl⟩
      obtain ⟨r, hr⟩ : ∃ r, i % 64 = r := ⟨_, rfl⟩
      have hq4 : q < 4 := by omega
      have hr64 : r < 64 := by omega
      have hqi : (i : Int) / 64 = (q : Int) := by omega
      have hri : (i : Int) % 64 = (r : Int) := by omega
      have hi0 : (0 : Int) ≤ (i : Int) := by omega
      have hw0 : IntKind.i64.wrap (q : Int) = (q : Int) := Go.wrap_small _ (by omega) (by omega)
      have hlen := (spanS_w HS.out a j).1
      obtain ⟨x, hx⟩ : ∃ x, (spanS S a j)[q]? = some x := ⟨_, List.getElem?_eq_getElem (by omega)⟩
      have c0 := H.out.cell (ndL_at hx)
      have cf := fun i => H.out.frozen i
      have hq0 : (0 : Int) ≤ (q : Int) := by omega
      have hq1 : (q : Int) < 4 := by omega
      have hr0 : (0 : Int) ≤ (r : Int) := by omega
      have hr1 : (r : Int) < 64 := by omega
      have HV := hide (show bits .or .u64 (x : Int) (IntKind.u64.wrap ((2 : Int) ^ r)) = ((x ||| 2 ^ r : Nat) : Int) from or_pow x r (by have := (spanS_w HS.out a j).2 x (List.mem_of_getElem? hx); exact this) hr64)
      have HSN := hide (show (spanS S a j).set q (x ||| 2 ^ r) = spanS S a (j + 1) by
        rw [spanS, hi]; unfold bitS; rw [hq, hr, hx]; rfl)
      have hib : i ≤ 255 := by omega
      go_wp2_with fail
      go_region
      have hbk := H.out.set (1 + q) (.int .u64 (bits .or .u64 (x : Int) (IntKind.u64.wrap ((2 : Int) ^ r))))
      rw [HV.out, ndL_set (by omega), HSN.out] at hbk
      have hk := KeepR.setK z (1 + q) wr (.int .u64 (bits .or .u64 (x : Int) (IntKind.u64.wrap ((2 : Int) ^ r))))
      rw [HV.out] at hk ⊢
      obtain ⟨X, hX⟩ : ∃ X, wr.setCell ⟨z, 1 + q, none⟩ (.int .u64 ((x ||| 2 ^ r : Nat) : Int)) = X := ⟨_, rfl⟩
      rw [hX] at hbk hk ⊢
      have HBX := hide (hbk.below ((Below.refl X.heap.size X).drew))
      have HKX := hide ((HK.out.trans hk).trans (KeepR.of ((Below.refl X.heap.size X).drew)))
      clear hbk hk hX
      go_wp2
      go_roundw
      case rel => exact ⟨j + 1, by congr 1; omega, by omega, HBX, HKX⟩
      case measure => simp [intOf]; omega
    · have hle1 : ¬ (i : Int) ≤ (b : Int) := by omega
      have hje : j = b + 1 - a := by omega
      have HJ := hide hje
      clear hje
      go_wp2
      go_end0
      exact ⟨rfl, by rw [← HJ.out]; exact H.out, HK.out⟩
end Go.Proofs.YtfamoikmfbpigaaDoor
namespace Go.Proofs.YtfamoikmfbpigaaDoor
open Go.RowKit

/-- A node. -/
inductive Nd where
  | mk (k : Int) (S : List Nat) (kids : List Nd)
mutual
/-- A node's cells, in a world; what lies below it lies in blocks from B on. -/
def NdAt (B : Nat) (W : World) : Nd → List Value → Prop
  | .mk k S kids, cs => ∃ A cap, cs = ndL k S (.slice A kids.length cap) ∧ W64 S ∧ kids.length ≤ cap ∧ cap ≤ maxLen ∧ NdsAt B W kids A 0
/-- Nodes side by side, from the jth on. -/
def NdsAt (B : Nat) (W : World) : List Nd → Option Addr → Nat → Prop
  | [], _, _ => True
  | x :: l, A, j => (∃ b o cs, A = some ⟨b, o, none⟩ ∧ (B ≤ b ∧ b < W.heap.size) ∧ cs.length = 6 ∧ (∀ i u, cs[i]? = some u → W.cell? ⟨b, o + j * 6 + i, none⟩ = some u) ∧ NdAt B W x cs) ∧ NdsAt B W l A (j + 1)
end
mutual
theorem NdAt.keep {B C : Nat} {w W : World} (hC : C ≤ B) (hs : w.heap.size ≤ W.heap.size) (hk : ∀ b o u, B ≤ b → w.cell? ⟨b, o, none⟩ = some u → W.cell? ⟨b, o, none⟩ = some u) : ∀ (x : Nd) (cs : List Value), NdAt B w x cs → NdAt C W x cs
  | .mk k S kids, cs, h => by
    unfold NdAt at h ⊢
    obtain ⟨A, cap, h1, h2, h3, h4, h5⟩ := h
    exact ⟨A, cap, h1, h2, h3, h4, NdsAt.keep hC hs hk kids A 0 h5⟩
theorem NdsAt.keep {B C : Nat} {w W : World} (hC : C ≤ B) (hs : w.heap.size ≤ W.heap.size) (hk : ∀ b o u, B ≤ b → w.cell? ⟨b, o, none⟩ = some u → W.cell? ⟨b, o, none⟩ = some u) : ∀ (l : List Nd) (A : Option Addr) (j : Nat), NdsAt B w l A j → NdsAt C W l A j
  | [], _, _, _ => by unfold NdsAt; trivial
  | x :: l, A, j, h => by
    unfold NdsAt at h ⊢
    obtain ⟨⟨b, o, cs, e, hb, hl, hc, hx⟩, h2⟩ := h
    exact ⟨⟨b, o, cs, e, ⟨Nat.le_trans hC hb.1, Nat.lt_of_lt_of_le hb.2 hs⟩, hl, fun i u hu => hk _ _ _ hb.1 (hc i u hu), NdAt.keep hC hs hk x cs hx⟩, NdsAt.keep hC hs hk l A (j + 1) h2⟩
end
theorem NdAt.below {B : Nat} {w W : World} {x : Nd} {cs : List Value} (h : NdAt B w x cs) (hb : Below w.heap.size w W) : NdAt B W x cs :=
  NdAt.keep (Nat.le_refl _) hb.size (fun b o u _ hc => (hb.cell (p := ⟨b, o, none⟩) (World.block_lt_of_cell? _ _ hc)).trans hc) x cs h
theorem NdAt.low {B C : Nat} {w : World} {x : Nd} {cs : List Value} (h : NdAt B w x cs) (hC : C ≤ B) : NdAt C w x cs := NdAt.keep hC (Nat.le_refl _) (fun _ _ _ _ h => h) x cs h
/-- A box below is written. -/
theorem NdAt.keepZ {B z : Nat} {w W : World} {x : Nd} {cs : List Value} (h : NdAt B w x cs) (hz : z < B) (hk : KeepR z w W) : NdAt B W x cs :=
  NdAt.keep (Nat.le_refl _) hk.size (fun b o u hb hc => hk.cell hc (by omega)) x cs h
theorem NdAt.len {B : Nat} {W : World} : ∀ {x : Nd} {cs : List Value}, NdAt B W x cs → cs.length = 6
  | .mk k S kids, cs, h => by
    unfold NdAt at h
    obtain ⟨A, cap, h1, h2, -⟩ := h
    rw [h1]; simp [ndL, h2.1]
/-- A node without kids. -/
theorem NdAt.leaf (B : Nat) (W : World) (k : Int) {S : List Nat} (hS : W64 S) : NdAt B W (.mk k S []) (ndL k S (.slice none 0 0)) := by
  unfold NdAt NdsAt
  exact ⟨none, 0, rfl, hS, Nat.le_refl _, by unfold maxLen; omega, trivial⟩
/-- A node and the rest; or the panic. -/
def ResN (p : Nat) (w : World) (x : Option (Nd × ByteArray)) (e : Ending) (w' : World) : Prop :=
  match x with
  | some (n, t) => ∃ cs, e = .returned (.agg cs.toArray) ∧ NdAt w.heap.size w' n cs ∧ Rd w' p t ∧ KeepR p w w'
  | none => e = panE ∧ KeepR p w w'
theorem KeepR.own {p z : Nat} {w X Y : World} (h : KeepR p w X) (h2 : KeepR z X Y) (hz : w.heap.size ≤ z) : KeepR p w Y :=
  ⟨h2.os.trans h.os, h2.tape.trans h.tape, h2.output.trans h.output, Nat.le_trans h.size h2.size, fun b hb hne => (h2.block b (Nat.lt_of_lt_of_le hb h.size) (by omega)).trans (h.block b hb hne)⟩
theorem Rd.keepZ {z p : Nat} {w W : World} {s : ByteArray} (h : Rd w p s) (hk : KeepR z w W) (hne : p ≠ z) : Rd W p s := (hk.block p h.lt hne).trans h
end Go.Proofs.YtfamoikmfbpigaaDoor
namespace Go.Proofs.YtfamoikmfbpigaaDoor
open Go.RowKit

/-- What stands in brackets: span by span. -/
def braL : Nat → Bool → ByteArray → List Nat → Option (List Nat × ByteArray)
  | 0, _, _, _ => none
  | f + 1, fst, t, S =>
    if fst = true ∨ nextB t ≠ 93 then
      match letE t with
      | none => none
      | some (a, t1) =>
        if isB t1 45 = true then
          match letE (t1.extract 1 t1.size) with
          | none => none
          | some (b, t2) => if b < a then none else braL f false t2 (spanS S a (b + 1 - a))
        else braL f false t1 (spanS S a 1)
    else some (S, t)
def cmpJ (S : List Nat) : Nat → List Nat
  | 0 => S
  | j + 1 => (cmpJ S j).set j (18446744073709551615 - (cmpJ S j)[j]?.getD 0)
theorem cmpJ_w {S : List Nat} (h : W64 S) : ∀ j, W64 (cmpJ S j)
  | 0 => h
  | j + 1 => by
    refine ⟨by rw [cmpJ, List.length_set]; exact (cmpJ_w h j).1, fun x hx => ?_⟩
    rw [cmpJ] at hx
    rcases List.mem_or_eq_of_mem_set hx with h1 | rfl
    · exact (cmpJ_w h j).2 x h1
    · omega
theorem cmp_w {S : List Nat} (h : W64 S) (j x : Nat) : W64 (S.set j (18446744073709551615 - x)) := by
  refine ⟨by rw [List.length_set]; exact h.1, fun y hy => ?_⟩
  rcases List.mem_or_eq_of_mem_set hy with h1 | rfl
  · exact h.2 y h1
  · omega
theorem not_u64 (x : Nat) (hx : x < 18446744073709551616) : bits .xor .u64 (if IntKind.u64.signed = true then -1 else IntKind.u64.max) (x : Int) = ((18446744073709551615 - x : Nat) : Int) := by
  have e : (if IntKind.u64.signed = true then (-1 : Int) else IntKind.u64.max) = ((18446744073709551615 : Nat) : Int) := by decide
  rw [e, bits_xor_u64_nat _ _ (by omega) hx]
  congr 1
  have h1 := BitVec.toNat_not (x := BitVec.ofNat 64 x)
  rw [BitVec.not_def, BitVec.toNat_xor, BitVec.toNat_allOnes, BitVec.toNat_ofNat, Nat.mod_eq_of_lt (by omega)] at h1
  exact h1
def noSet : List Nat := [0, 0, 0, 0]
theorem noSet_w : W64 noSet := ⟨rfl, fun x hx => by simp [noSet] at hx; omega⟩
def braE (s : ByteArray) : Option (Nd × ByteArray) :=
  match braL ((skipS s 94).size + 1) true (skipS s 94) noSet with
  | none => none
  | some (S, t) => some (.mk 1 (cmpJ S (if isB s 94 = true then 4 else 0)) [], t.extract 1 t.size)
theorem esc_bd {s t : ByteArray} {b : Nat} (h : escE s = some (b, t)) : b < 256 ∧ t.size < s.size := by
  unfold escE at h
  split at h
  · cases h
  · rename_i b1 s1 h1
    have k1 := tk_bd h1
    repeat' split at h
    all_goals first
      | cases h; done
      | (injection h with h; injection h with e1 e2; subst e1 e2; exact ⟨by omega, by omega⟩)
      | skip
    all_goals (
      rename_i x s2 h2 _ hd hh3 _ y s3 h4 _ l hl
      have k2 := tk_bd h2
      have k4 := tk_bd h4
      have d1 := dig_bd k2.1 hh3
      have d2 := dig_bd k4.1 hl
      injection h with h; injection h with e1 e2; subst e1 e2
      exact ⟨by omega, by omega⟩)
theorem let_bd {s t : ByteArray} {b : Nat} (h : letE s = some (b, t)) : b < 256 ∧ t.size < s.size := by
  unfold letE at h
  split at h
  · cases h
  · rename_i b1 s1 h1
    have k1 := tk_bd h1
    split at h
    · have := esc_bd h; omega
    · split at h
      · cases h
      · injection h with h; injection h with e1 e2; subst e1 e2; omega
theorem isB_next {t : ByteArray} (h : nextB t = 93) : isB t 93 = true := by
  unfold nextB at h; unfold isB
  split at h
  · rename_i h0; rw [dif_pos h0]; simpa using h
  · omega
theorem skip_size (s : ByteArray) (b : Nat) : (skipS s b).size ≤ s.size := by
  unfold skipS; split
  · rw [ByteArray.size_extract]; omega
  · exact Nat.le_refl _
/-- How long the reader's text is. -/
def sizeR (W : World) (p : Nat) : Nat := match W.cell? ⟨p, 0, none⟩ with | some (.string s) => s.size | _ => 0
theorem sizeR_rd {W : World} {p : Nat} {t : ByteArray} (h : Rd W p t) : sizeR W p = t.size := by unfold sizeR; rw [h.cell (i := 0) rfl]
theorem ndL_nil (k : Int) : ndL k noSet (.slice none 0 0) = [.int .i64 k, .int .u64 0, .int .u64 0, .int .u64 0, .int .u64 0, .slice none 0 0] := rfl
/-- What bracket's loops carry. -/
def BraS (w W : World) (p z2 z3 : Nat) (t : ByteArray) (S : List Nat) : Prop :=
  Rd W p t ∧ Blk W z2 27 (ndL 0 noSet (.slice none 0 0)) ∧ Blk W z3 27 (ndL 1 S (.slice none 0 0)) ∧ KeepR p w W ∧ W64 S
theorem BraS.step {w W V : World} {p z2 z3 : Nat} {t t' : ByteArray} {S : List Nat} (h : BraS w W p z2 z3 t S) (hr : Rd V p t') (hk : KeepR p W V) (h2 : z2 ≠ p) (h3 : z3 ≠ p) : BraS w V p z2 z3 t' S :=
  ⟨hr, hk.blk h.2.1 h2, hk.blk h.2.2.1 h3, h.2.2.2.1.trans hk, h.2.2.2.2⟩
theorem BraS.span {w W V : World} {p z2 z3 : Nat} {t : ByteArray} {S S' : List Nat} (h : BraS w W p z2 z3 t S) (hb : Blk V z3 27 (ndL 1 S' (.slice none 0 0))) (hk : KeepR z3 W V) (h2 : z2 ≠ z3) (h3 : p ≠ z3) (hz : w.heap.size ≤ z3) (hS : W64 S') : BraS w V p z2 z3 t S' :=
  ⟨h.1.keepZ hk h3, hk.blk h.2.1 h2, hb, h.2.2.2.1.own hk hz, hS⟩
/-- A box with a node laid in. -/
def ndSet (W : World) (z : Nat) (k : Int) (a b c d : Nat) (v : Value) : World := (((((W.setCell ⟨z, 0, none⟩ (.int .i64 k)).setCell ⟨z, 1, none⟩ (.int .u64 (a : Int))).setCell ⟨z, 2, none⟩ (.int .u64 (b : Int))).setCell ⟨z, 3, none⟩ (.int .u64 (c : Int))).setCell ⟨z, 4, none⟩ (.int .u64 (d : Int))).setCell ⟨z, 5, none⟩ v
theorem nd_put {W : World} {z : Nat} {k0 : Int} {v0 : Value} (h : Blk W z 27 (ndL k0 noSet v0)) (k : Int) (a b c d : Nat) (v : Value) : Blk (ndSet W z k a b c d v) z 27 (ndL k [a, b, c, d] v) :=
  (((((h.set 0 _).set 1 _).set 2 _).set 3 _).set 4 _).set 5 _
theorem nd_keep (W : World) (z : Nat) (k : Int) (a b c d : Nat) (v : Value) : KeepR z W (ndSet W z k a b c d v) :=
  (((((KeepR.setK z 0 W _).trans (KeepR.setK z 1 _ _)).trans (KeepR.setK z 2 _ _)).trans (KeepR.setK z 3 _ _)).trans (KeepR.setK z 4 _ _)).trans (KeepR.setK z 5 _ _)
set_option maxHeartbeats 4000000 in
set_option maxRecDepth 100000 in
theorem bra_any (p : Nat) (s : ByteArray) (w : World) (h : Rd w p s) (hm : s.size ≤ 100000) : Calls Tryd.prog 70 #[.pointer (some ⟨p, 0, none⟩)] w (ResN p w (braE s)) := by
  have hpw := h.lt
  have hb0 : Below w.heap.size w (w.alloc (.cells (ndL 0 noSet (.slice none 0 0)).toArray 27)) := (Below.refl _ _).alloc (Nat.le_refl _) _
  obtain ⟨W0, hW0⟩ : ∃ W, w.alloc (.cells (ndL 0 noSet (.slice none 0 0)).toArray 27) = W := ⟨_, rfl⟩
  have k0 : Blk W0 w.heap.size 27 (ndL 0 noSet (.slice none 0 0)) := by rw [← hW0]; exact Blk.new _ _ _
  have hz0 : W0.heap.size = w.heap.size + 1 := by rw [← hW0]; simp
  rw [hW0] at hb0
  have hb1 : Below W0.heap.size W0 (W0.alloc (.cells (ndL 1 noSet (.slice none 0 0)).toArray 27)) := (Below.refl _ _).alloc (Nat.le_refl _) _
  obtain ⟨W1, hW1⟩ : ∃ W, W0.alloc (.cells (ndL 1 noSet (.slice none 0 0)).toArray 27) = W := ⟨_, rfl⟩
  have k1 : Blk W1 (w.heap.size + 1) 27 (ndL 1 noSet (.slice none 0 0)) := by rw [← hW1, ← hz0]; exact Blk.new _ _ _
  rw [hW1] at hb1
  have HB1 := hide (show BraS w W1 p w.heap.size (w.heap.size + 1) s noSet from ⟨(h.below hb0).below hb1, k0.below hb1, k1, (KeepR.of hb0).trans (KeepR.of hb1), noSet_w⟩)
  clear h hb0 k0 hb1 k1
  go_enter Tryd.func70, Tryd.ntmps70
  go_wp2_with fail
  rw [show w.alloc (.cells #[.int .i64 0, .int .u64 0, .int .u64 0, .int .u64 0, .int .u64 0, .slice none 0 0] 27) = W0 from hW0]
  rw [show W0.alloc (.cells #[.int .i64 1, .int .u64 0, .int .u64 0, .int .u64 0, .int .u64 0, .slice none 0 0] 27) = W1 from hW1]
  clear hW0 hW1 hz0
  obtain ⟨z2, hz2⟩ : ∃ q, w.heap.size = q := ⟨_, rfl⟩
  obtain ⟨z3, hz3⟩ : ∃ q, z2 + 1 = q := ⟨_, rfl⟩
  rw [hz2, hz3]
  rw [hz2, hz3] at HB1
  have h2p : z2 ≠ p := by omega
  have h3p : z3 ≠ p := by omega
  have hp3 : p ≠ z3 := by omega
  have h23 : z2 ≠ z3 := by omega
  have hzw : w.heap.size ≤ z3 := by omega
  clear hz3 hpw
  refine (skip_any p s 94 _ HB1.out.1 (by omega)).mono ?_; rintro e w2 ⟨rfl, h1, h2⟩
  have HB2 := hide (HB1.out.step h1 h2 h2p h3p)
  clear h1 h2 HB1
  obtain ⟨nt, hnt⟩ : ∃ b, isB s 94 = b := ⟨_, rfl⟩
  obtain ⟨s1, hs1⟩ : ∃ t, skipS s 94 = t := ⟨_, rfl⟩
  have hsz := skip_size s 94
  have HX := hide (show braE s = match braL (s1.size + 1) true s1 noSet with | none => none | some (S, t) => some (.mk 1 (cmpJ S (if nt = true then 4 else 0)) [], t.extract 1 t.size) by unfold braE; rw [hnt, hs1])
  rw [hnt]
  rw [hs1] at HB2 hsz
  obtain ⟨X, hXe⟩ : ∃ X, braL (s1.size + 1) true s1 noSet = X := ⟨_, rfl⟩
  rw [hXe] at HX
  have HXE := hide hXe
  clear hnt hs1 hXe
  go_wp2_with fail
  go_loopw [5] (fun fv wr => ∃ (fst : Bool) (f : Nat) (t : ByteArray) (S : List Nat), fv = .bool fst ∧ t.size + 1 ≤ f ∧ t.size ≤ 100000 ∧ f ≤ 100001 ∧ Hid (braL f fst t S = X) ∧ Hid (BraS w wr p z2 z3 t S)) (fun _ wr => sizeR wr p)
  case atStart => exact ⟨true, s1.size + 1, s1, noSet, rfl, Nat.le_refl _, by omega, by omega, HXE, HB2⟩
  case round =>
    clear HB2 HXE
    obtain ⟨fst, f, t, S, rfl, hf, ht, hf2, HL, HB⟩ := hrel
    obtain ⟨f, rfl⟩ : ∃ g, f = g + 1 := ⟨f - 1, by omega⟩
    have hsr := sizeR_rd HB.out.1
    by_cases hgo : fst = true ∨ nextB t ≠ 93
    · have HST := HL.out
      rw [braL, if_pos hgo] at HST
      clear HL
      cases fst with
      | true =>
        clear hgo
        as_aux_lemma =>
          go_wp2_with fail
          refine (let_any p t _ HB.out.1 (by omega)).mono ?_; rintro e w4 hr
          rcases hr.cases with ⟨hx, rfl, h3⟩ | ⟨a, t1, hx, rfl, h3, h4⟩
          · rw [hx] at HST
            have HNX := HST
            clear hr hx
            go_wp2
            exact ⟨rfl, by rw [HX.out, ← HNX]; exact ⟨rfl, HB.out.2.2.2.1.trans h3⟩⟩
          · have hlb := let_bd hx
            rw [hx] at HST
            dsimp only at HST
            have HB4 := hide (HB.out.step h3 h4 h2p h3p)
            clear hr hx h3 h4
            go_wp2_with fail
            refine (skip_any p t1 45 _ HB4.out.1 (by omega)).mono ?_; rintro e w5 ⟨rfl, h5, h6⟩
            cases hb45 : isB t1 45 with
            | true =>
              rw [if_pos hb45] at HST
              rw [show skipS t1 45 = t1.extract 1 t1.size from if_pos hb45] at h5
              have hex : (t1.extract 1 t1.size).size ≤ t1.size := by rw [ByteArray.size_extract]; omega
              have HB5 := hide (HB4.out.step h5 h6 h2p h3p)
              clear h5 h6 hb45
              go_wp2_with fail
              refine (let_any p _ _ HB5.out.1 (by omega)).mono ?_; rintro e w6 hr
              rcases hr.cases with ⟨hx, rfl, h3⟩ | ⟨b, t2, hx, rfl, h3, h4⟩
              · rw [hx] at HST
                have HNX := HST
                clear hr hx
                go_wp2
                exact ⟨rfl, by rw [HX.out, ← HNX]; exact ⟨rfl, HB5.out.2.2.2.1.trans h3⟩⟩
              · have hlb2 := let_bd hx
                rw [hx] at HST
                dsimp only at HST
                have HB6 := hide (HB5.out.step h3 h4 h2p h3p)
                clear hr hx h3 h4
                by_cases hba : b < a
                · rw [if_pos hba] at HST
                  have HNX := HST
                  have hba2 : (b : Int) < (a : Int) := by omega
                  go_wp2
                  exact ⟨rfl, by rw [HX.out, ← HNX]; exact ⟨rfl, HB6.out.2.2.2.1⟩⟩
                · rw [if_neg hba] at HST
                  have hba2 : ¬ (b : Int) < (a : Int) := by omega
                  have hbk := HB6.out.2.2.1
                  go_wp2_with fail
                  refine (span_any z3 1 S (.slice none 0 0) a b _ HB6.out.2.2.1 HB6.out.2.2.2.2 (by omega) (by omega)).mono ?_; rintro e w9 ⟨rfl, h9, k9⟩
                  have HB9 := hide (HB6.out.span h9 k9 h23 hp3 hzw (spanS_w HB6.out.2.2.2.2 a _))
                  have hs9 := sizeR_rd HB9.out.1
                  clear h9 k9 hbk
                  go_wp2_with fail
                  go_roundw
                  case rel => exact ⟨false, f, t2, _, rfl, by omega, by omega, by omega, hide HST, HB9⟩
                  case measure => rw [hs9, hsr]; omega
            | false =>
              rw [if_neg (by rw [hb45]; decide)] at HST
              rw [show skipS t1 45 = t1 from if_neg (by rw [hb45]; decide)] at h5
              have HB5 := hide (HB4.out.step h5 h6 h2p h3p)
              clear h5 h6 hb45
              have hbk := HB5.out.2.2.1
              go_wp2_with fail
              refine (span_any z3 1 S (.slice none 0 0) a a _ HB5.out.2.2.1 HB5.out.2.2.2.2 (by omega) (by omega)).mono ?_; rintro e w9 ⟨rfl, h9, k9⟩
              rw [show a + 1 - a = 1 by omega] at h9
              have HB9 := hide (HB5.out.span h9 k9 h23 hp3 hzw (spanS_w HB5.out.2.2.2.2 a 1))
              have hs9 := sizeR_rd HB9.out.1
              clear h9 k9 hbk
              go_wp2_with fail
              go_roundw
              case rel => exact ⟨false, f, t1, _, rfl, by omega, by omega, by omega, hide HST, HB9⟩
              case measure => rw [hs9, hsr]; omega
      | false =>
        have hnx : nextB t ≠ 93 := hgo.elim (fun e => by cases e) id
        have qn : ((nextB t : Int) != 93) = true := by simp; omega
        clear hgo hnx
        go_wp2_with fail
        refine (rnext_any p t _ HB.out.1 (by omega)).mono ?_; rintro e w3 ⟨rfl, rfl⟩
        as_aux_lemma =>
          go_wp2_with fail
          refine (let_any p t _ HB.out.1 (by omega)).mono ?_; rintro e w4 hr
          rcases hr.cases with ⟨hx, rfl, h3⟩ | ⟨a, t1, hx, rfl, h3, h4⟩
          · rw [hx] at HST
            have HNX := HST
            clear hr hx
            go_wp2
            exact ⟨rfl, by rw [HX.out, ← HNX]; exact ⟨rfl, HB.out.2.2.2.1.trans h3⟩⟩
          · have hlb := let_bd hx
            rw [hx] at HST
            dsimp only at HST
            have HB4 := hide (HB.out.step h3 h4 h2p h3p)
            clear hr hx h3 h4
            go_wp2_with fail
            refine (skip_any p t1 45 _ HB4.out.1 (by omega)).mono ?_; rintro e w5 ⟨rfl, h5, h6⟩
            cases hb45 : isB t1 45 with
            | true =>
              rw [if_pos hb45] at HST
              rw [show skipS t1 45 = t1.extract 1 t1.size from if_pos hb45] at h5
              have hex : (t1.extract 1 t1.size).size ≤ t1.size := by rw [ByteArray.size_extract]; omega
              have HB5 := hide (HB4.out.step h5 h6 h2p h3p)
              clear h5 h6 hb45
              go_wp2_with fail
              refine (let_any p _ _ HB5.out.1 (by omega)).mono ?_; rintro e w6 hr
              rcases hr.cases with ⟨hx, rfl, h3⟩ | ⟨b, t2, hx, rfl, h3, h4⟩
              · rw [hx] at HST
                have HNX := HST
                clear hr hx
                go_wp2
                exact ⟨rfl, by rw [HX.out, ← HNX]; exact ⟨rfl, HB5.out.2.2.2.1.trans h3⟩⟩
              · have hlb2 := let_bd hx
                rw [hx] at HST
                dsimp only at HST
                have HB6 := hide (HB5.out.step h3 h4 h2p h3p)
                clear hr hx h3 h4
                by_cases hba : b < a
                · rw [if_pos hba] at HST
                  have HNX := HST
                  have hba2 : (b : Int) < (a : Int) := by omega
                  go_wp2
                  exact ⟨rfl, by rw [HX.out, ← HNX]; exact ⟨rfl, HB6.out.2.2.2.1⟩⟩
                · rw [if_neg hba] at HST
                  have hba2 : ¬ (b : Int) < (a : Int) := by omega
                  have hbk := HB6.out.2.2.1
                  go_wp2_with fail
                  refine (span_any z3 1 S (.slice none 0 0) a b _ HB6.out.2.2.1 HB6.out.2.2.2.2 (by omega) (by omega)).mono ?_; rintro e w9 ⟨rfl, h9, k9⟩
                  have HB9 := hide (HB6.out.span h9 k9 h23 hp3 hzw (spanS_w HB6.out.2.2.2.2 a _))
                  have hs9 := sizeR_rd HB9.out.1
                  clear h9 k9 hbk
                  go_wp2_with fail
                  go_roundw
                  case rel => exact ⟨false, f, t2, _, rfl, by omega, by omega, by omega, hide HST, HB9⟩
                  case measure => rw [hs9, hsr]; omega
            | false =>
              rw [if_neg (by rw [hb45]; decide)] at HST
              rw [show skipS t1 45 = t1 from if_neg (by rw [hb45]; decide)] at h5
              have HB5 := hide (HB4.out.step h5 h6 h2p h3p)
              clear h5 h6 hb45
              have hbk := HB5.out.2.2.1
              go_wp2_with fail
              refine (span_any z3 1 S (.slice none 0 0) a a _ HB5.out.2.2.1 HB5.out.2.2.2.2 (by omega) (by omega)).mono ?_; rintro e w9 ⟨rfl, h9, k9⟩
              rw [show a + 1 - a = 1 by omega] at h9
              have HB9 := hide (HB5.out.span h9 k9 h23 hp3 hzw (spanS_w HB5.out.2.2.2.2 a 1))
              have hs9 := sizeR_rd HB9.out.1
              clear h9 k9 hbk
              go_wp2_with fail
              go_roundw
              case rel => exact ⟨false, f, t1, _, rfl, by omega, by omega, by omega, hide HST, HB9⟩
              case measure => rw [hs9, hsr]; omega
    · have hfst : fst = false := by cases fst with | true => exact absurd (.inl rfl) hgo | false => rfl
      have hnx : nextB t = 93 := by
        rcases Nat.lt_or_ge (nextB t) 93 with h1 | h1
        · exact absurd (.inr (by omega)) hgo
        · rcases Nat.lt_or_ge 93 (nextB t) with h2 | h2
          · exact absurd (.inr (by omega)) hgo
          · omega
      have HST := HL.out
      rw [braL, if_neg hgo] at HST
      rw [← HST] at HX
      dsimp only at HX
      subst hfst
      have hi93 := isB_next hnx
      have HI := hide hi93
      clear hgo HL hi93
      have HNB := hide hnx
      go_wp2_with fail
      refine (rnext_any p t _ HB.out.1 (by omega)).mono ?_; rintro e w3 ⟨rfl, rfl⟩
      rw [HNB.out]
      clear hnx
      go_wp2_with fail
      refine (need_yes p t 93 _ HB.out.1 (by omega) HI.out).mono ?_; rintro e w4 ⟨rfl, h1, h2⟩
      have HB4 := hide (HB.out.step h1 h2 h2p h3p)
      clear h1 h2 HB hsr HNB HI
      go_wp2_with fail
      obtain ⟨t4, ht4⟩ : ∃ q, t.extract 1 t.size = q := ⟨_, rfl⟩
      rw [ht4] at HB4 HX
      clear ht4 ht hf hf2 HST
      go_loopw [36] (fun jv wr => ∃ j : Nat, jv = .int .i64 j ∧ j ≤ 4 ∧ Hid (BraS w wr p z2 z3 t4 (cmpJ S (if nt = true then j else 0)))) (fun jv _ => 4 - (intOf jv).toNat)
      case atStart => exact ⟨0, rfl, by omega, by rw [show (if nt = true then 0 else 0) = 0 by split <;> rfl]; exact HB4⟩
      case round =>
        clear HB4
        obtain ⟨j, rfl, hj, HB⟩ := hrel
        by_cases hlt : j < 4
        · have hj0 : (0 : Int) ≤ (j : Int) := by omega
          have hj1 : (j : Int) < 4 := by omega
          cases nt with
          | false =>
            go_wp2
            go_roundw
            case rel => exact ⟨j + 1, by go_num, by omega, HB⟩
            case measure => simp [intOf]; omega
          | true =>
            rw [if_pos rfl] at HB
            have hlen := HB.out.2.2.2.2.1
            obtain ⟨x, hx⟩ : ∃ x, (cmpJ S j)[j]? = some x := ⟨_, List.getElem?_eq_getElem (by omega)⟩
            have hxb := HB.out.2.2.2.2.2 x (List.mem_of_getElem? hx)
            have c0 := HB.out.2.2.1.cell (ndL_at hx)
            have cf := fun i => HB.out.2.2.1.frozen i
            have HSN := hide (show (cmpJ S j).set j (18446744073709551615 - x) = cmpJ S (j + 1) by rw [cmpJ, hx]; rfl)
            have HW := hide HB.out.2.2.2.2
            go_wp2
            have hv := not_u64 x hxb
            rw [hv]
            have hbk := HB.out.2.2.1.set (1 + j) (.int .u64 ((18446744073709551615 - x : Nat) : Int))
            rw [ndL_set (by omega), HSN.out] at hbk
            exact ⟨⟨j + 1, by go_num, by omega, hide (by exact HB.out.span hbk (KeepR.setK z3 (1 + j) wr _) h23 hp3 hzw (by rw [← HSN.out]; exact cmp_w HW.out j x))⟩, by simp [intOf]; omega⟩
        · obtain rfl : j = 4 := by omega
          have hlen := HB.out.2.2.2.2.1
          have HX2 := hide (show braE s = some (Nd.mk 1 (cmpJ S (if nt = true then 4 else 0)) [], t4) from HX.out)
          obtain ⟨T, hT⟩ : ∃ T, cmpJ S (if nt = true then 4 else 0) = T := ⟨_, rfl⟩
          rw [hT] at HB HX2 hlen
          clear hT HX
          match T, hlen with
          | [x0, x1, x2, x3], _ =>
            have HW := hide HB.out.2.2.2.2
            have a0 := HB.out.2.2.1.cell (i := 0) rfl
            have a1 := HB.out.2.2.1.cell (i := 1) rfl
            have a2 := HB.out.2.2.1.cell (i := 2) rfl
            have a3 := HB.out.2.2.1.cell (i := 3) rfl
            have a4 := HB.out.2.2.1.cell (i := 4) rfl
            have a5 := HB.out.2.2.1.cell (i := 5) rfl
            have b0 := HB.out.2.1.cell (i := 0) rfl
            have b1 := HB.out.2.1.cell (i := 1) rfl
            have b2 := HB.out.2.1.cell (i := 2) rfl
            have b3 := HB.out.2.1.cell (i := 3) rfl
            have b4 := HB.out.2.1.cell (i := 4) rfl
            have b5 := HB.out.2.1.cell (i := 5) rfl
            have bf := fun i => HB.out.2.1.frozen i
            have h32 : z3 ≠ z2 := fun e => h23 e.symm
            go_wp2
            refine bodyPost_ret (results_cell_row rfl _ _ z2 27 (ndL 1 [x0, x1, x2, x3] (.slice none 0 0)).toArray (0, 0) _ rfl (nd_put HB.out.2.1 1 x0 x1 x2 x3 (.slice none 0 0)) Tryd.underlying27 rfl (by kernel_rfl)) rfl ?_
            rw [HX2.out]
            have hk := nd_keep wr z2 1 x0 x1 x2 x3 (.slice none 0 0)
            exact ⟨_, rfl, NdAt.leaf _ _ 1 HW.out, HB.out.1.keepZ hk (fun e => h2p e.symm), HB.out.2.2.2.1.own hk (by omega)⟩
end Go.Proofs.YtfamoikmfbpigaaDoor
namespace Go.Proofs.YtfamoikmfbpigaaDoor
open Go.RowKit

/-- One: R is what reads a rule in brackets. -/
def atomE (R : ByteArray → Option (Nd × ByteArray)) (s : ByteArray) : Option (Nd × ByteArray) :=
  match tk s with
  | none => none
  | some (b, t) =>
    if b = 40 then (match R t with | none => none | some (n, t2) => if isB t2 41 = true then some (n, t2.extract 1 t2.size) else none)
    else if b = 91 then braE t
    else if b = 46 then some (.mk 1 (spanS (spanS noSet 0 10) 11 245) [], t)
    else if b = 92 then (match escE t with | none => none | some (c, t2) => some (.mk 1 (spanS noSet c 1) [], t2))
    else if b = 41 ∨ b = 93 ∨ b = 124 ∨ b = 42 ∨ b = 43 ∨ b = 63 then none
    else some (.mk 1 (spanS noSet b 1) [], t)
theorem four {S : List Nat} (h : S.length = 4) : ∃ a b c d, S = [a, b, c, d] := by
  match S, h with
  | [a, b, c, d], _ => exact ⟨a, b, c, d, rfl⟩
theorem ResN.cases {p : Nat} {w : World} {x : Option (Nd × ByteArray)} {e : Ending} {w' : World} (h : ResN p w x e w') : (x = none ∧ e = panE ∧ KeepR p w w') ∨
    ∃ (n : Nd) (t : ByteArray) (k : Int) (x0 x1 x2 x3 : Nat) (A : Option Addr) (m cap : Nat), x = some (n, t) ∧ e = .returned (.agg #[.int .i64 k, .int .u64 (x0 : Int), .int .u64 (x1 : Int), .int .u64 (x2 : Int), .int .u64 (x3 : Int), .slice A m cap]) ∧ NdAt w.heap.size w' n (ndL k [x0, x1, x2, x3] (.slice A m cap)) ∧ Rd w' p t ∧ KeepR p w w' := by
  unfold ResN at h
  cases x with
  | none => exact .inl ⟨rfl, h.1, h.2⟩
  | some y =>
    obtain ⟨⟨k, S, kids⟩, t⟩ := y
    obtain ⟨cs, e1, h1, h2, h3⟩ := h
    have h4 := h1
    unfold NdAt at h4
    obtain ⟨A, cap, rfl, hw, -⟩ := h4
    obtain ⟨a, b, c, d, rfl⟩ := four hw.1
    exact .inr ⟨_, t, k, a, b, c, d, A, kids.length, cap, rfl, e1, h1, h2, h3⟩
/-- What atom's two boxes hold. -/
def AtS (w W : World) (p z2 z3 : Nat) (t : ByteArray) (k : Int) (S : List Nat) (v : Value) : Prop :=
  Rd W p t ∧ Blk W z2 27 (ndL 0 noSet (.slice none 0 0)) ∧ Blk W z3 27 (ndL k S v) ∧ KeepR p w W
theorem AtS.step {w W V : World} {p z2 z3 : Nat} {t t' : ByteArray} {k : Int} {S : List Nat} {v : Value} (h : AtS w W p z2 z3 t k S v) (hr : Rd V p t') (hk : KeepR p W V) (h2 : z2 ≠ p) (h3 : z3 ≠ p) : AtS w V p z2 z3 t' k S v :=
  ⟨hr, hk.blk h.2.1 h2, hk.blk h.2.2.1 h3, h.2.2.2.trans hk⟩
theorem AtS.own {w W V : World} {p z2 z3 : Nat} {t : ByteArray} {k k' : Int} {S S' : List Nat} {v v' : Value} (h : AtS w W p z2 z3 t k S v) (hb : Blk V z3 27 (ndL k' S' v')) (hk : KeepR z3 W V) (h2 : z2 ≠ z3) (h3 : p ≠ z3) (hz : w.heap.size ≤ z3) : AtS w V p z2 z3 t k' S' v' :=
  ⟨h.1.keepZ hk h3, hk.blk h.2.1 h2, hb, h.2.2.2.own hk hz⟩
/-- What lies in blocks that the reader's call has made is kept by what writes the reader alone. -/
theorem NdAt.keepR {B p : Nat} {w W : World} {x : Nd} {cs : List Value} (h : NdAt B w x cs) (hp : p < B) (hk : KeepR p w W) : NdAt B W x cs := h.keepZ hp hk
theorem nd_putA {W : World} {z : Nat} {k0 : Int} {a0 b0 c0 d0 : Nat} {v0 : Value} (h : Blk W z 27 (ndL k0 [a0, b0, c0, d0] v0)) (k : Int) (a b c d : Nat) (v : Value) : Blk (ndSet W z k a b c d v) z 27 (ndL k [a, b, c, d] v) :=
  (((((h.set 0 _).set 1 _).set 2 _).set 3 _).set 4 _).set 5 _
theorem one_span (b : Nat) : b + 1 - b = 1 := by omega
set_option maxHeartbeats 4000000 in
set_option maxRecDepth 100000 in
theorem atom_lit (p : Nat) (s t : ByteArray) (b : Nat) (R : ByteArray → Option (Nd × ByteArray)) (w : World) (h : Rd w p s) (hm : s.size ≤ 100000) (ht : tk s = some (b, t)) (h40 : b ≠ 40) (h91 : b ≠ 91) (h46 : b ≠ 46) (h92 : b ≠ 92) (hno : ¬ (b = 41 ∨ b = 93 ∨ b = 124 ∨ b = 42 ∨ b = 43 ∨ b = 63)) :
    Calls Tryd.prog 60 #[.pointer (some ⟨p, 0, none⟩)] w (ResN p w (atomE R s)) := by
  have HX := hide (show atomE R s = some (.mk 1 (spanS noSet b 1) [], t) by unfold atomE; rw [ht]; dsimp only; rw [if_neg h40, if_neg h91, if_neg h46, if_neg h92, if_neg hno])
  have hbd := tk_bd ht
  have HT := hide (fun W (h : Rd W p s) => by have := take_any p s W h (by omega); rw [ht] at this; exact this)
  have q0 : ((b : Int) == 40) = false := by simp; omega
  have q1 : ((b : Int) == 91) = false := by simp; omega
  have q2 : ((b : Int) == 46) = false := by simp; omega
  have q3 : ((b : Int) == 92) = false := by simp; omega
  have q4 : ((b : Int) == 41) = false := by simp; omega
  have q5 : ((b : Int) == 93) = false := by simp; omega
  have q6 : ((b : Int) == 124) = false := by simp; omega
  have q7 : ((b : Int) == 42) = false := by simp; omega
  have q8 : ((b : Int) == 43) = false := by simp; omega
  have q9 : ((b : Int) == 63) = false := by simp; omega
  clear ht h40 h91 h46 h92 hno
  have hpw := h.lt
  have hb0 : Below w.heap.size w (w.alloc (.cells (ndL 0 noSet (.slice none 0 0)).toArray 27)) := (Below.refl _ _).alloc (Nat.le_refl _) _
  obtain ⟨W0, hW0⟩ : ∃ W, w.alloc (.cells (ndL 0 noSet (.slice none 0 0)).toArray 27) = W := ⟨_, rfl⟩
  have k0 : Blk W0 w.heap.size 27 (ndL 0 noSet (.slice none 0 0)) := by rw [← hW0]; exact Blk.new _ _ _
  have hz0 : W0.heap.size = w.heap.size + 1 := by rw [← hW0]; simp
  rw [hW0] at hb0
  have hb1 : Below W0.heap.size W0 (W0.alloc (.cells (ndL 1 noSet (.slice none 0 0)).toArray 27)) := (Below.refl _ _).alloc (Nat.le_refl _) _
  obtain ⟨W1, hW1⟩ : ∃ W, W0.alloc (.cells (ndL 1 noSet (.slice none 0 0)).toArray 27) = W := ⟨_, rfl⟩
  have k1 : Blk W1 (w.heap.size + 1) 27 (ndL 1 noSet (.slice none 0 0)) := by rw [← hW1, ← hz0]; exact Blk.new _ _ _
  rw [hW1] at hb1
  have HB1 := hide (show AtS w W1 p w.heap.size (w.heap.size + 1) s 1 noSet (.slice none 0 0) from ⟨(h.below hb0).below hb1, k0.below hb1, k1, (KeepR.of hb0).trans (KeepR.of hb1)⟩)
  clear h hb0 k0 hb1 k1
  go_enter Tryd.func60, Tryd.ntmps60
  go_wp2_with fail
  rw [show w.alloc (.cells #[.int .i64 0, .int .u64 0, .int .u64 0, .int .u64 0, .int .u64 0, .slice none 0 0] 27) = W0 from hW0]
  rw [show W0.alloc (.cells #[.int .i64 1, .int .u64 0, .int .u64 0, .int .u64 0, .int .u64 0, .slice none 0 0] 27) = W1 from hW1]
  clear hW0 hW1 hz0
  obtain ⟨z2, hz2⟩ : ∃ q, w.heap.size = q := ⟨_, rfl⟩
  obtain ⟨z3, hz3⟩ : ∃ q, z2 + 1 = q := ⟨_, rfl⟩
  rw [hz2, hz3]
  rw [hz2, hz3] at HB1
  have h2p : z2 ≠ p := by omega
  have h3p : z3 ≠ p := by omega
  have hp3 : p ≠ z3 := by omega
  have h23 : z2 ≠ z3 := by omega
  have h32 : z3 ≠ z2 := by omega
  have hzw : w.heap.size ≤ z3 := by omega
  have hzw2 : w.heap.size ≤ z2 := by omega
  clear hz3 hpw
  refine (HT.out _ HB1.out.1).mono ?_; rintro e w2 ⟨rfl, h1, h2⟩
  have HB2 := hide (HB1.out.step h1 h2 h2p h3p)
  clear h1 h2 HB1
  go_wp2_with fail
  refine (span_any z3 1 noSet (.slice none 0 0) b b _ HB2.out.2.2.1 noSet_w (by omega) (by omega)).mono ?_; rintro e w3 ⟨rfl, h3, h4⟩
  rw [one_span] at h3
  have hw := spanS_w noSet_w b 1
  have HW := hide hw
  obtain ⟨x0, x1, x2, x3, hS⟩ := four hw.1
  rw [hS] at h3 HX HW
  have HB3 := hide (HB2.out.own h3 h4 h23 hp3 hzw)
  clear h3 h4 HB2 hS hw
  have a0 := HB3.out.2.2.1.cell (i := 0) rfl
  have a1 := HB3.out.2.2.1.cell (i := 1) rfl
  have a2 := HB3.out.2.2.1.cell (i := 2) rfl
  have a3 := HB3.out.2.2.1.cell (i := 3) rfl
  have a4 := HB3.out.2.2.1.cell (i := 4) rfl
  have a5 := HB3.out.2.2.1.cell (i := 5) rfl
  have b0 := HB3.out.2.1.cell (i := 0) rfl
  have b1 := HB3.out.2.1.cell (i := 1) rfl
  have b2 := HB3.out.2.1.cell (i := 2) rfl
  have b3 := HB3.out.2.1.cell (i := 3) rfl
  have b4 := HB3.out.2.1.cell (i := 4) rfl
  have b5 := HB3.out.2.1.cell (i := 5) rfl
  have bf := fun i => HB3.out.2.1.frozen i
  have af := fun i => HB3.out.2.2.1.frozen i
  go_wp2
  refine bodyPost_ret (results_cell_row rfl _ _ z2 27 (ndL 1 [x0, x1, x2, x3] (.slice none 0 0)).toArray (0, 0) _ rfl (nd_put HB3.out.2.1 1 x0 x1 x2 x3 (.slice none 0 0)) Tryd.underlying27 rfl (by kernel_rfl)) rfl ?_
  rw [HX.out]
  have hk := nd_keep w3 z2 1 x0 x1 x2 x3 (.slice none 0 0)
  exact ⟨_, rfl, NdAt.leaf _ _ 1 HW.out, HB3.out.1.keepZ hk (fun e => h2p e.symm), HB3.out.2.2.2.own hk hzw2⟩
set_option maxHeartbeats 1000000 in
set_option maxRecDepth 100000 in
theorem atom_end (p : Nat) (s : ByteArray) (R : ByteArray → Option (Nd × ByteArray)) (w : World) (h : Rd w p s) (hm : s.size ≤ 100000) (ht : tk s = none) :
    Calls Tryd.prog 60 #[.pointer (some ⟨p, 0, none⟩)] w (ResN p w (atomE R s)) := by
  have HT := hide (fun W (h : Rd W p s) => by have := take_any p s W h (by omega); rw [ht] at this; exact this)
  have HX := hide (show atomE R s = none by unfold atomE; rw [ht])
  clear ht
  have hpw := h.lt
  have hb0 : Below w.heap.size w (w.alloc (.cells (ndL 0 noSet (.slice none 0 0)).toArray 27)) := (Below.refl _ _).alloc (Nat.le_refl _) _
  obtain ⟨W0, hW0⟩ : ∃ W, w.alloc (.cells (ndL 0 noSet (.slice none 0 0)).toArray 27) = W := ⟨_, rfl⟩
  have k0 : Blk W0 w.heap.size 27 (ndL 0 noSet (.slice none 0 0)) := by rw [← hW0]; exact Blk.new _ _ _
  have hz0 : W0.heap.size = w.heap.size + 1 := by rw [← hW0]; simp
  rw [hW0] at hb0
  have hb1 : Below W0.heap.size W0 (W0.alloc (.cells (ndL 1 noSet (.slice none 0 0)).toArray 27)) := (Below.refl _ _).alloc (Nat.le_refl _) _
  obtain ⟨W1, hW1⟩ : ∃ W, W0.alloc (.cells (ndL 1 noSet (.slice none 0 0)).toArray 27) = W := ⟨_, rfl⟩
  have k1 : Blk W1 (w.heap.size + 1) 27 (ndL 1 noSet (.slice none 0 0)) := by rw [← hW1, ← hz0]; exact Blk.new _ _ _
  rw [hW1] at hb1
  have HB1 := hide (show AtS w W1 p w.heap.size (w.heap.size + 1) s 1 noSet (.slice none 0 0) from ⟨(h.below hb0).below hb1, k0.below hb1, k1, (KeepR.of hb0).trans (KeepR.of hb1)⟩)
  clear h hb0 k0 hb1 k1
  go_enter Tryd.func60, Tryd.ntmps60
  go_wp2_with fail
  rw [show w.alloc (.cells #[.int .i64 0, .int .u64 0, .int .u64 0, .int .u64 0, .int .u64 0, .slice none 0 0] 27) = W0 from hW0]
  rw [show W0.alloc (.cells #[.int .i64 1, .int .u64 0, .int .u64 0, .int .u64 0, .int .u64 0, .slice none 0 0] 27) = W1 from hW1]
  clear hW0 hW1 hz0
  obtain ⟨z2, hz2⟩ : ∃ q, w.heap.size = q := ⟨_, rfl⟩
  obtain ⟨z3, hz3⟩ : ∃ q, z2 + 1 = q := ⟨_, rfl⟩
  rw [hz2, hz3]
  rw [hz2, hz3] at HB1
  have h2p : z2 ≠ p := by omega
  have h3p : z3 ≠ p := by omega
  have hp3 : p ≠ z3 := by omega
  have h23 : z2 ≠ z3 := by omega
  have h32 : z3 ≠ z2 := by omega
  have hzw : w.heap.size ≤ z3 := by omega
  have hzw2 : w.heap.size ≤ z2 := by omega
  clear hz3 hpw
  refine (HT.out _ HB1.out.1).mono ?_; rintro e w2 ⟨rfl, h1⟩
  go_wp2
  exact ⟨rfl, by rw [HX.out]; exact ⟨rfl, HB1.out.2.2.2.trans h1⟩⟩
set_option maxHeartbeats 4000000 in
set_option maxRecDepth 100000 in
theorem atom_bad (p : Nat) (s t : ByteArray) (R : ByteArray → Option (Nd × ByteArray)) (w : World) (h : Rd w p s) (hm : s.size ≤ 100000) (b : Nat) (ht : tk s = some (b, t)) (hno : b = 41 ∨ b = 93 ∨ b = 124 ∨ b = 42 ∨ b = 43 ∨ b = 63) :
    Calls Tryd.prog 60 #[.pointer (some ⟨p, 0, none⟩)] w (ResN p w (atomE R s)) := by
  have hbd := tk_bd ht
  have HT := hide (fun W (h : Rd W p s) => by have := take_any p s W h (by omega); rw [ht] at this; exact this)
  have HX := hide (show atomE R s = none by unfold atomE; rw [ht]; dsimp only; rw [if_neg (by omega), if_neg (by omega), if_neg (by omega), if_neg (by omega), if_pos hno])
  have q0 : ((b : Int) == 40) = false := by simp; omega
  have q1 : ((b : Int) == 91) = false := by simp; omega
  have q2 : ((b : Int) == 46) = false := by simp; omega
  have q3 : ((b : Int) == 92) = false := by simp; omega
  clear ht
  rcases hno with rfl | rfl | rfl | rfl | rfl | rfl
  all_goals (
    have hpw := h.lt
    have hb0 : Below w.heap.size w (w.alloc (.cells (ndL 0 noSet (.slice none 0 0)).toArray 27)) := (Below.refl _ _).alloc (Nat.le_refl _) _
    obtain ⟨W0, hW0⟩ : ∃ W, w.alloc (.cells (ndL 0 noSet (.slice none 0 0)).toArray 27) = W := ⟨_, rfl⟩
    have k0 : Blk W0 w.heap.size 27 (ndL 0 noSet (.slice none 0 0)) := by rw [← hW0]; exact Blk.new _ _ _
    have hz0 : W0.heap.size = w.heap.size + 1 := by rw [← hW0]; simp
    rw [hW0] at hb0
    have hb1 : Below W0.heap.size W0 (W0.alloc (.cells (ndL 1 noSet (.slice none 0 0)).toArray 27)) := (Below.refl _ _).alloc (Nat.le_refl _) _
    obtain ⟨W1, hW1⟩ : ∃ W, W0.alloc (.cells (ndL 1 noSet (.slice none 0 0)).toArray 27) = W := ⟨_, rfl⟩
    have k1 : Blk W1 (w.heap.size + 1) 27 (ndL 1 noSet (.slice none 0 0)) := by rw [← hW1, ← hz0]; exact Blk.new _ _ _
    rw [hW1] at hb1
    have HB1 := hide (show AtS w W1 p w.heap.size (w.heap.size + 1) s 1 noSet (.slice none 0 0) from ⟨(h.below hb0).below hb1, k0.below hb1, k1, (KeepR.of hb0).trans (KeepR.of hb1)⟩)
    clear h hb0 k0 hb1 k1
    go_enter Tryd.func60, Tryd.ntmps60
    go_wp2_with fail
    rw [show w.alloc (.cells #[.int .i64 0, .int .u64 0, .int .u64 0, .int .u64 0, .int .u64 0, .slice none 0 0] 27) = W0 from hW0]
    rw [show W0.alloc (.cells #[.int .i64 1, .int .u64 0, .int .u64 0, .int .u64 0, .int .u64 0, .slice none 0 0] 27) = W1 from hW1]
    clear hW0 hW1 hz0
    obtain ⟨z2, hz2⟩ : ∃ q, w.heap.size = q := ⟨_, rfl⟩
    obtain ⟨z3, hz3⟩ : ∃ q, z2 + 1 = q := ⟨_, rfl⟩
    rw [hz2, hz3]
    rw [hz2, hz3] at HB1
    have h2p : z2 ≠ p := by omega
    have h3p : z3 ≠ p := by omega
    have hp3 : p ≠ z3 := by omega
    have h23 : z2 ≠ z3 := by omega
    have h32 : z3 ≠ z2 := by omega
    have hzw : w.heap.size ≤ z3 := by omega
    have hzw2 : w.heap.size ≤ z2 := by omega
    clear hz3 hpw
    refine (HT.out _ HB1.out.1).mono ?_; rintro e w2 ⟨rfl, h1, h2⟩
    have HB2 := hide (HB1.out.step h1 h2 h2p h3p)
    clear h1 h2 HB1
    go_wp2
    exact ⟨rfl, by rw [HX.out]; exact ⟨rfl, HB2.out.2.2.2⟩⟩)
set_option maxHeartbeats 4000000 in
set_option maxRecDepth 100000 in
theorem atom_dot (p : Nat) (s t : ByteArray) (R : ByteArray → Option (Nd × ByteArray)) (w : World) (h : Rd w p s) (hm : s.size ≤ 100000) (ht : tk s = some (46, t)) :
    Calls Tryd.prog 60 #[.pointer (some ⟨p, 0, none⟩)] w (ResN p w (atomE R s)) := by
  have hbd := tk_bd ht
  have HT := hide (fun W (h : Rd W p s) => by have := take_any p s W h (by omega); rw [ht] at this; exact this)
  have HX := hide (show atomE R s = some (.mk 1 (spanS (spanS noSet 0 10) 11 245) [], t) by unfold atomE; rw [ht]; rfl)
  clear ht
  have hpw := h.lt
  have hb0 : Below w.heap.size w (w.alloc (.cells (ndL 0 noSet (.slice none 0 0)).toArray 27)) := (Below.refl _ _).alloc (Nat.le_refl _) _
  obtain ⟨W0, hW0⟩ : ∃ W, w.alloc (.cells (ndL 0 noSet (.slice none 0 0)).toArray 27) = W := ⟨_, rfl⟩
  have k0 : Blk W0 w.heap.size 27 (ndL 0 noSet (.slice none 0 0)) := by rw [← hW0]; exact Blk.new _ _ _
  have hz0 : W0.heap.size = w.heap.size + 1 := by rw [← hW0]; simp
  rw [hW0] at hb0
  have hb1 : Below W0.heap.size W0 (W0.alloc (.cells (ndL 1 noSet (.slice none 0 0)).toArray 27)) := (Below.refl _ _).alloc (Nat.le_refl _) _
  obtain ⟨W1, hW1⟩ : ∃ W, W0.alloc (.cells (ndL 1 noSet (.slice none 0 0)).toArray 27) = W := ⟨_, rfl⟩
  have k1 : Blk W1 (w.heap.size + 1) 27 (ndL 1 noSet (.slice none 0 0)) := by rw [← hW1, ← hz0]; exact Blk.new _ _ _
  rw [hW1] at hb1
  have HB1 := hide (show AtS w W1 p w.heap.size (w.heap.size + 1) s 1 noSet (.slice none 0 0) from ⟨(h.below hb0).below hb1, k0.below hb1, k1, (KeepR.of hb0).trans (KeepR.of hb1)⟩)
  clear h hb0 k0 hb1 k1
  go_enter Tryd.func60, Tryd.ntmps60
  go_wp2_with fail
  rw [show w.alloc (.cells #[.int .i64 0, .int .u64 0, .int .u64 0, .int .u64 0, .int .u64 0, .slice none 0 0] 27) = W0 from hW0]
  rw [show W0.alloc (.cells #[.int .i64 1, .int .u64 0, .int .u64 0, .int .u64 0, .int .u64 0, .slice none 0 0] 27) = W1 from hW1]
  clear hW0 hW1 hz0
  obtain ⟨z2, hz2⟩ : ∃ q, w.heap.size = q := ⟨_, rfl⟩
  obtain ⟨z3, hz3⟩ : ∃ q, z2 + 1 = q := ⟨_, rfl⟩
  rw [hz2, hz3]
  rw [hz2, hz3] at HB1
  have h2p : z2 ≠ p := by omega
  have h3p : z3 ≠ p := by omega
  have hp3 : p ≠ z3 := by omega
  have h23 : z2 ≠ z3 := by omega
  have h32 : z3 ≠ z2 := by omega
  have hzw : w.heap.size ≤ z3 := by omega
  have hzw2 : w.heap.size ≤ z2 := by omega
  clear hz3 hpw
  refine (HT.out _ HB1.out.1).mono ?_; rintro e w2 ⟨rfl, h1, h2⟩
  have HB2 := hide (HB1.out.step h1 h2 h2p h3p)
  clear h1 h2 HB1
  go_wp2_with fail
  refine (span_any z3 1 noSet (.slice none 0 0) 0 9 _ HB2.out.2.2.1 noSet_w (by omega) (by omega)).mono ?_; rintro e w3 ⟨rfl, h3, h4⟩
  have hw0 := spanS_w noSet_w 0 10
  have HB3 := hide (HB2.out.own h3 h4 h23 hp3 hzw)
  clear h3 h4 HB2
  go_wp2_with fail
  refine (span_any z3 1 _ (.slice none 0 0) 11 255 _ HB3.out.2.2.1 hw0 (by omega) (by omega)).mono ?_; rintro e w4 ⟨rfl, h3, h4⟩
  have hw : W64 (spanS (spanS noSet 0 10) 11 245) := spanS_w hw0 11 245
  have HW := hide hw
  have h3' : Blk w4 z3 27 (ndL 1 (spanS (spanS noSet 0 10) 11 245) (.slice none 0 0)) := h3
  obtain ⟨x0, x1, x2, x3, hS⟩ := four hw.1
  rw [hS] at h3' HX HW
  have HB4 := hide (HB3.out.own h3' h4 h23 hp3 hzw)
  clear h3 h3' h4 HB3 hS hw hw0
  have a0 := HB4.out.2.2.1.cell (i := 0) rfl
  have a1 := HB4.out.2.2.1.cell (i := 1) rfl
  have a2 := HB4.out.2.2.1.cell (i := 2) rfl
  have a3 := HB4.out.2.2.1.cell (i := 3) rfl
  have a4 := HB4.out.2.2.1.cell (i := 4) rfl
  have a5 := HB4.out.2.2.1.cell (i := 5) rfl
  have b0 := HB4.out.2.1.cell (i := 0) rfl
  have b1 := HB4.out.2.1.cell (i := 1) rfl
  have b2 := HB4.out.2.1.cell (i := 2) rfl
  have b3 := HB4.out.2.1.cell (i := 3) rfl
  have b4 := HB4.out.2.1.cell (i := 4) rfl
  have b5 := HB4.out.2.1.cell (i := 5) rfl
  have bf := fun i => HB4.out.2.1.frozen i
  have af := fun i => HB4.out.2.2.1.frozen i
  go_wp2
  refine bodyPost_ret (results_cell_row rfl _ _ z2 27 (ndL 1 [x0, x1, x2, x3] (.slice none 0 0)).toArray (0, 0) _ rfl (nd_put HB4.out.2.1 1 x0 x1 x2 x3 (.slice none 0 0)) Tryd.underlying27 rfl (by kernel_rfl)) rfl ?_
  rw [HX.out]
  have hk := nd_keep w4 z2 1 x0 x1 x2 x3 (.slice none 0 0)
  exact ⟨_, rfl, NdAt.leaf _ _ 1 HW.out, HB4.out.1.keepZ hk (fun e => h2p e.symm), HB4.out.2.2.2.own hk hzw2⟩
set_option maxHeartbeats 4000000 in
set_option maxRecDepth 100000 in
theorem atom_esc (p : Nat) (s t : ByteArray) (R : ByteArray → Option (Nd × ByteArray)) (w : World) (h : Rd w p s) (hm : s.size ≤ 100000) (ht : tk s = some (92, t)) :
    Calls Tryd.prog 60 #[.pointer (some ⟨p, 0, none⟩)] w (ResN p w (atomE R s)) := by
  have hbd := tk_bd ht
  have HT := hide (fun W (h : Rd W p s) => by have := take_any p s W h (by omega); rw [ht] at this; exact this)
  have HX := hide (show atomE R s = (match escE t with | none => none | some (c, t2) => some (.mk 1 (spanS noSet c 1) [], t2)) by unfold atomE; rw [ht]; rfl)
  clear ht
  have hpw := h.lt
  have hb0 : Below w.heap.size w (w.alloc (.cells (ndL 0 noSet (.slice none 0 0)).toArray 27)) := (Below.refl _ _).alloc (Nat.le_refl _) _
  obtain ⟨W0, hW0⟩ : ∃ W, w.alloc (.cells (ndL 0 noSet (.slice none 0 0)).toArray 27) = W := ⟨_, rfl⟩
  have k0 : Blk W0 w.heap.size 27 (ndL 0 noSet (.slice none 0 0)) := by rw [← hW0]; exact Blk.new _ _ _
  have hz0 : W0.heap.size = w.heap.size + 1 := by rw [← hW0]; simp
  rw [hW0] at hb0
  have hb1 : Below W0.heap.size W0 (W0.alloc (.cells (ndL 1 noSet (.slice none 0 0)).toArray 27)) := (Below.refl _ _).alloc (Nat.le_refl _) _
  obtain ⟨W1, hW1⟩ : ∃ W, W0.alloc (.cells (ndL 1 noSet (.slice none 0 0)).toArray 27) = W := ⟨_, rfl⟩
  have k1 : Blk W1 (w.heap.size + 1) 27 (ndL 1 noSet (.slice none 0 0)) := by rw [← hW1, ← hz0]; exact Blk.new _ _ _
  rw [hW1] at hb1
  have HB1 := hide (show AtS w W1 p w.heap.size (w.heap.size + 1) s 1 noSet (.slice none 0 0) from ⟨(h.below hb0).below hb1, k0.below hb1, k1, (KeepR.of hb0).trans (KeepR.of hb1)⟩)
  clear h hb0 k0 hb1 k1
  go_enter Tryd.func60, Tryd.ntmps60
  go_wp2_with fail
  rw [show w.alloc (.cells #[.int .i64 0, .int .u64 0, .int .u64 0, .int .u64 0, .int .u64 0, .slice none 0 0] 27) = W0 from hW0]
  rw [show W0.alloc (.cells #[.int .i64 1, .int .u64 0, .int .u64 0, .int .u64 0, .int .u64 0, .slice none 0 0] 27) = W1 from hW1]
  clear hW0 hW1 hz0
  obtain ⟨z2, hz2⟩ : ∃ q, w.heap.size = q := ⟨_, rfl⟩
  obtain ⟨z3, hz3⟩ : ∃ q, z2 + 1 = q := ⟨_, rfl⟩
  rw [hz2, hz3]
  rw [hz2, hz3] at HB1
  have h2p : z2 ≠ p := by omega
  have h3p : z3 ≠ p := by omega
  have hp3 : p ≠ z3 := by omega
  have h23 : z2 ≠ z3 := by omega
  have h32 : z3 ≠ z2 := by omega
  have hzw : w.heap.size ≤ z3 := by omega
  have hzw2 : w.heap.size ≤ z2 := by omega
  clear hz3 hpw
  refine (HT.out _ HB1.out.1).mono ?_; rintro e w2 ⟨rfl, h1, h2⟩
  have HB2 := hide (HB1.out.step h1 h2 h2p h3p)
  clear h1 h2 HB1
  go_wp2_with fail
  refine (esc_any p t _ HB2.out.1 (by omega)).mono ?_; rintro e w3 hr
  rcases hr.cases with ⟨hx, rfl, h3⟩ | ⟨c, t2, hx, rfl, h3, h4⟩
  · rw [hx] at HX
    clear hr hx
    go_wp2
    exact ⟨rfl, by rw [HX.out]; exact ⟨rfl, HB2.out.2.2.2.trans h3⟩⟩
  · have hcb := esc_bd hx
    rw [hx] at HX
    dsimp only at HX
    have HB3 := hide (HB2.out.step h3 h4 h2p h3p)
    clear hr hx h3 h4 HB2
    go_wp2_with fail
    refine (span_any z3 1 noSet (.slice none 0 0) c c _ HB3.out.2.2.1 noSet_w (by omega) (by omega)).mono ?_; rintro e w4 ⟨rfl, h3, h4⟩
    rw [one_span] at h3
    have hw := spanS_w noSet_w c 1
    have HW := hide hw
    obtain ⟨x0, x1, x2, x3, hS⟩ := four hw.1
    rw [hS] at h3 HX HW
    have HB4 := hide (HB3.out.own h3 h4 h23 hp3 hzw)
    clear h3 h4 HB3 hS hw
    have a0 := HB4.out.2.2.1.cell (i := 0) rfl
    have a1 := HB4.out.2.2.1.cell (i := 1) rfl
    have a2 := HB4.out.2.2.1.cell (i := 2) rfl
    have a3 := HB4.out.2.2.1.cell (i := 3) rfl
    have a4 := HB4.out.2.2.1.cell (i := 4) rfl
    have a5 := HB4.out.2.2.1.cell (i := 5) rfl
    have b0 := HB4.out.2.1.cell (i := 0) rfl
    have b1 := HB4.out.2.1.cell (i := 1) rfl
    have b2 := HB4.out.2.1.cell (i := 2) rfl
    have b3 := HB4.out.2.1.cell (i := 3) rfl
    have b4 := HB4.out.2.1.cell (i := 4) rfl
    have b5 := HB4.out.2.1.cell (i := 5) rfl
    have bf := fun i => HB4.out.2.1.frozen i
    have af := fun i => HB4.out.2.2.1.frozen i
    go_wp2
    refine bodyPost_ret (results_cell_row rfl _ _ z2 27 (ndL 1 [x0, x1, x2, x3] (.slice none 0 0)).toArray (0, 0) _ rfl (nd_put HB4.out.2.1 1 x0 x1 x2 x3 (.slice none 0 0)) Tryd.underlying27 rfl (by kernel_rfl)) rfl ?_
    rw [HX.out]
    have hk := nd_keep w4 z2 1 x0 x1 x2 x3 (.slice none 0 0)
    exact ⟨_, rfl, NdAt.leaf _ _ 1 HW.out, HB4.out.1.keepZ hk (fun e => h2p e.symm), HB4.out.2.2.2.own hk hzw2⟩
set_option maxHeartbeats 4000000 in
set_option maxRecDepth 100000 in
theorem atom_bra (p : Nat) (s t : ByteArray) (R : ByteArray → Option (Nd × ByteArray)) (w : World) (h : Rd w p s) (hm : s.size ≤ 100000) (ht : tk s = some (91, t)) :
    Calls Tryd.prog 60 #[.pointer (some ⟨p, 0, none⟩)] w (ResN p w (atomE R s)) := by
  have hbd := tk_bd ht
  have HT := hide (fun W (h : Rd W p s) => by have := take_any p s W h (by omega); rw [ht] at this; exact this)
  have HX := hide (show atomE R s = braE t by unfold atomE; rw [ht]; rfl)
  clear ht
  have hpw := h.lt
  have hb0 : Below w.heap.size w (w.alloc (.cells (ndL 0 noSet (.slice none 0 0)).toArray 27)) := (Below.refl _ _).alloc (Nat.le_refl _) _
  obtain ⟨W0, hW0⟩ : ∃ W, w.alloc (.cells (ndL 0 noSet (.slice none 0 0)).toArray 27) = W := ⟨_, rfl⟩
  have k0 : Blk W0 w.heap.size 27 (ndL 0 noSet (.slice none 0 0)) := by rw [← hW0]; exact Blk.new _ _ _
  have hz0 : W0.heap.size = w.heap.size + 1 := by rw [← hW0]; simp
  rw [hW0] at hb0
  have hb1 : Below W0.heap.size W0 (W0.alloc (.cells (ndL 1 noSet (.slice none 0 0)).toArray 27)) := (Below.refl _ _).alloc (Nat.le_refl _) _
  obtain ⟨W1, hW1⟩ : ∃ W, W0.alloc (.cells (ndL 1 noSet (.slice none 0 0)).toArray 27) = W := ⟨_, rfl⟩
  have k1 : Blk W1 (w.heap.size + 1) 27 (ndL 1 noSet (.slice none 0 0)) := by rw [← hW1, ← hz0]; exact Blk.new _ _ _
  rw [hW1] at hb1
  have HB1 := hide (show AtS w W1 p w.heap.size (w.heap.size + 1) s 1 noSet (.slice none 0 0) from ⟨(h.below hb0).below hb1, k0.below hb1, k1, (KeepR.of hb0).trans (KeepR.of hb1)⟩)
  clear h hb0 k0 hb1 k1
  go_enter Tryd.func60, Tryd.ntmps60
  go_wp2_with fail
  rw [show w.alloc (.cells #[.int .i64 0, .int .u64 0, .int .u64 0, .int .u64 0, .int .u64 0, .slice none 0 0] 27) = W0 from hW0]
  rw [show W0.alloc (.cells #[.int .i64 1, .int .u64 0, .int .u64 0, .int .u64 0, .int .u64 0, .slice none 0 0] 27) = W1 from hW1]
  clear hW0 hW1 hz0
  obtain ⟨z2, hz2⟩ : ∃ q, w.heap.size = q := ⟨_, rfl⟩
  obtain ⟨z3, hz3⟩ : ∃ q, z2 + 1 = q := ⟨_, rfl⟩
  rw [hz2, hz3]
  rw [hz2, hz3] at HB1
  have h2p : z2 ≠ p := by omega
  have h3p : z3 ≠ p := by omega
  have hp3 : p ≠ z3 := by omega
  have h23 : z2 ≠ z3 := by omega
  have h32 : z3 ≠ z2 := by omega
  have hzw : w.heap.size ≤ z3 := by omega
  have hzw2 : w.heap.size ≤ z2 := by omega
  clear hz3 hpw
  refine (HT.out _ HB1.out.1).mono ?_; rintro e w2 ⟨rfl, h1, h2⟩
  have HB2 := hide (HB1.out.step h1 h2 h2p h3p)
  clear h1 h2 HB1
  go_wp2_with fail
  refine (bra_any p t _ HB2.out.1 (by omega)).mono ?_; rintro e w3 hr
  rcases hr.cases with ⟨hx, rfl, h3⟩ | ⟨n, t2, k, x0, x1, x2, x3, A, m, cap, hx, rfl, hn, h3, h4⟩
  · rw [hx] at HX
    clear hr hx
    go_wp2
    exact ⟨rfl, by rw [HX.out]; exact ⟨rfl, HB2.out.2.2.2.trans h3⟩⟩
  · rw [hx] at HX
    have HB3 := hide (HB2.out.step h3 h4 h2p h3p)
    have HN := hide hn
    have hzl2 := HB2.out.2.1.lt
    have hzl3 := HB2.out.2.2.1.lt
    have hw2l := HB2.out.2.2.2.size
    clear hr hx h3 h4 HB2 hn
    have a0 := HB3.out.2.2.1.cell (i := 0) rfl
    have a1 := HB3.out.2.2.1.cell (i := 1) rfl
    have a2 := HB3.out.2.2.1.cell (i := 2) rfl
    have a3 := HB3.out.2.2.1.cell (i := 3) rfl
    have a4 := HB3.out.2.2.1.cell (i := 4) rfl
    have a5 := HB3.out.2.2.1.cell (i := 5) rfl
    have b0 := HB3.out.2.1.cell (i := 0) rfl
    have b1 := HB3.out.2.1.cell (i := 1) rfl
    have b2 := HB3.out.2.1.cell (i := 2) rfl
    have b3 := HB3.out.2.1.cell (i := 3) rfl
    have b4 := HB3.out.2.1.cell (i := 4) rfl
    have b5 := HB3.out.2.1.cell (i := 5) rfl
    have bf := fun i => HB3.out.2.1.frozen i
    have af := fun i => HB3.out.2.2.1.frozen i
    go_upto_region 23 with (fail)
    have hk3 := nd_keep w3 z3 k x0 x1 x2 x3 (.slice A m cap)
    have HB4 := hide (HB3.out.own (nd_putA HB3.out.2.2.1 k x0 x1 x2 x3 (.slice A m cap)) hk3 h23 hp3 hzw)
    have HN4 := hide (HN.out.keepZ hzl3 hk3)
    obtain ⟨w4, hw4⟩ : ∃ X, ndSet w3 z3 k x0 x1 x2 x3 (.slice A m cap) = X := ⟨_, rfl⟩
    rw [hw4] at HB4 HN4
    unfold ndSet at hw4
    rw [hw4]
    clear hw4 hk3 a0 a1 a2 a3 a4 a5 b0 b1 b2 b3 b4 b5 bf af HB3 HN
    have a0 := HB4.out.2.2.1.cell (i := 0) rfl
    have a1 := HB4.out.2.2.1.cell (i := 1) rfl
    have a2 := HB4.out.2.2.1.cell (i := 2) rfl
    have a3 := HB4.out.2.2.1.cell (i := 3) rfl
    have a4 := HB4.out.2.2.1.cell (i := 4) rfl
    have a5 := HB4.out.2.2.1.cell (i := 5) rfl
    have b0 := HB4.out.2.1.cell (i := 0) rfl
    have b1 := HB4.out.2.1.cell (i := 1) rfl
    have b2 := HB4.out.2.1.cell (i := 2) rfl
    have b3 := HB4.out.2.1.cell (i := 3) rfl
    have b4 := HB4.out.2.1.cell (i := 4) rfl
    have b5 := HB4.out.2.1.cell (i := 5) rfl
    have bf := fun i => HB4.out.2.1.frozen i
    have af := fun i => HB4.out.2.2.1.frozen i
    go_wp2
    refine bodyPost_ret (results_cell_row rfl _ _ z2 27 (ndL k [x0, x1, x2, x3] (.slice A m cap)).toArray (0, 0) _ rfl (nd_put HB4.out.2.1 k x0 x1 x2 x3 (.slice A m cap)) Tryd.underlying27 rfl (by kernel_rfl)) rfl ?_
    rw [HX.out]
    have hk := nd_keep w4 z2 k x0 x1 x2 x3 (.slice A m cap)
    exact ⟨_, rfl, (HN4.out.keepZ hzl2 hk).low hw2l, HB4.out.1.keepZ hk (fun e => h2p e.symm), HB4.out.2.2.2.own hk hzw2⟩
set_option maxHeartbeats 4000000 in
set_option maxRecDepth 100000 in
theorem atom_par (p : Nat) (s t : ByteArray) (R : ByteArray → Option (Nd × ByteArray)) (w : World) (h : Rd w p s) (hm : s.size ≤ 100000) (ht : tk s = some (40, t)) (hR : ∀ u W, u.size < s.size → Rd W p u → KeepR p w W → Calls Tryd.prog 27 #[.pointer (some ⟨p, 0, none⟩)] W (ResN p W (R u))) (hRb : ∀ u n v, R u = some (n, v) → v.size ≤ u.size) :
    Calls Tryd.prog 60 #[.pointer (some ⟨p, 0, none⟩)] w (ResN p w (atomE R s)) := by
  have hbd := tk_bd ht
  have HT := hide (fun W (h : Rd W p s) => by have := take_any p s W h (by omega); rw [ht] at this; exact this)
  have HX := hide (show atomE R s = (match R t with | none => none | some (n, t2) => if isB t2 41 = true then some (n, t2.extract 1 t2.size) else none) by unfold atomE; rw [ht]; rfl)
  have HRR := hide (fun W h hk => hR t W (by omega) h hk)
  have HRB := hide hRb
  clear ht hR hRb
  have hpw := h.lt
  have hb0 : Below w.heap.size w (w.alloc (.cells (ndL 0 noSet (.slice none 0 0)).toArray 27)) := (Below.refl _ _).alloc (Nat.le_refl _) _
  obtain ⟨W0, hW0⟩ : ∃ W, w.alloc (.cells (ndL 0 noSet (.slice none 0 0)).toArray 27) = W := ⟨_, rfl⟩
  have k0 : Blk W0 w.heap.size 27 (ndL 0 noSet (.slice none 0 0)) := by rw [← hW0]; exact Blk.new _ _ _
  have hz0 : W0.heap.size = w.heap.size + 1 := by rw [← hW0]; simp
  rw [hW0] at hb0
  have hb1 : Below W0.heap.size W0 (W0.alloc (.cells (ndL 1 noSet (.slice none 0 0)).toArray 27)) := (Below.refl _ _).alloc (Nat.le_refl _) _
  obtain ⟨W1, hW1⟩ : ∃ W, W0.alloc (.cells (ndL 1 noSet (.slice none 0 0)).toArray 27) = W := ⟨_, rfl⟩
  have k1 : Blk W1 (w.heap.size + 1) 27 (ndL 1 noSet (.slice none 0 0)) := by rw [← hW1, ← hz0]; exact Blk.new _ _ _
  rw [hW1] at hb1
  have HB1 := hide (show AtS w W1 p w.heap.size (w.heap.size + 1) s 1 noSet (.slice none 0 0) from ⟨(h.below hb0).below hb1, k0.below hb1, k1, (KeepR.of hb0).trans (KeepR.of hb1)⟩)
  clear h hb0 k0 hb1 k1
  go_enter Tryd.func60, Tryd.ntmps60
  go_wp2_with fail
  rw [show w.alloc (.cells #[.int .i64 0, .int .u64 0, .int .u64 0, .int .u64 0, .int .u64 0, .slice none 0 0] 27) = W0 from hW0]
  rw [show W0.alloc (.cells #[.int .i64 1, .int .u64 0, .int .u64 0, .int .u64 0, .int .u64 0, .slice none 0 0] 27) = W1 from hW1]
  clear hW0 hW1 hz0
  obtain ⟨z2, hz2⟩ : ∃ q, w.heap.size = q := ⟨_, rfl⟩
  obtain ⟨z3, hz3⟩ : ∃ q, z2 + 1 = q := ⟨_, rfl⟩
  rw [hz2, hz3]
  rw [hz2, hz3] at HB1
  have h2p : z2 ≠ p := by omega
  have h3p : z3 ≠ p := by omega
  have hp3 : p ≠ z3 := by omega
  have h23 : z2 ≠ z3 := by omega
  have h32 : z3 ≠ z2 := by omega
  have hzw : w.heap.size ≤ z3 := by omega
  have hzw2 : w.heap.size ≤ z2 := by omega
  clear hz3 hpw
  refine (HT.out _ HB1.out.1).mono ?_; rintro e w2 ⟨rfl, h1, h2⟩
  have HB2 := hide (HB1.out.step h1 h2 h2p h3p)
  clear h1 h2 HB1
  go_wp2_with fail
  refine (HRR.out _ HB2.out.1 HB2.out.2.2.2).mono ?_; rintro e w3 hr
  rcases hr.cases with ⟨hx, rfl, h3⟩ | ⟨n, t2, k, x0, x1, x2, x3, A, m, cap, hx, rfl, hn, h3, h4⟩
  · rw [hx] at HX
    clear hr hx
    go_wp2
    exact ⟨rfl, by rw [HX.out]; exact ⟨rfl, HB2.out.2.2.2.trans h3⟩⟩
  · have htb := HRB.out _ _ _ hx
    rw [hx] at HX
    dsimp only at HX
    have HB3 := hide (HB2.out.step h3 h4 h2p h3p)
    have HN := hide hn
    have hzl2 := HB2.out.2.1.lt
    have hzl3 := HB2.out.2.2.1.lt
    have hpl2 := HB2.out.1.lt
    have hw2l := HB2.out.2.2.2.size
    clear hr hx h3 h4 HB2 hn
    have a0 := HB3.out.2.2.1.cell (i := 0) rfl
    have a1 := HB3.out.2.2.1.cell (i := 1) rfl
    have a2 := HB3.out.2.2.1.cell (i := 2) rfl
    have a3 := HB3.out.2.2.1.cell (i := 3) rfl
    have a4 := HB3.out.2.2.1.cell (i := 4) rfl
    have a5 := HB3.out.2.2.1.cell (i := 5) rfl
    have b0 := HB3.out.2.1.cell (i := 0) rfl
    have b1 := HB3.out.2.1.cell (i := 1) rfl
    have b2 := HB3.out.2.1.cell (i := 2) rfl
    have b3 := HB3.out.2.1.cell (i := 3) rfl
    have b4 := HB3.out.2.1.cell (i := 4) rfl
    have b5 := HB3.out.2.1.cell (i := 5) rfl
    have bf := fun i => HB3.out.2.1.frozen i
    have af := fun i => HB3.out.2.2.1.frozen i
    go_wp2_with fail
    have hk3 := nd_keep w3 z3 k x0 x1 x2 x3 (.slice A m cap)
    have HB4 := hide (HB3.out.own (nd_putA HB3.out.2.2.1 k x0 x1 x2 x3 (.slice A m cap)) hk3 h23 hp3 hzw)
    have HN4 := hide (HN.out.keepZ hzl3 hk3)
    obtain ⟨w4, hw4⟩ : ∃ X, ndSet w3 z3 k x0 x1 x2 x3 (.slice A m cap) = X := ⟨_, rfl⟩
    rw [hw4] at HB4 HN4
    unfold ndSet at hw4
    rw [hw4]
    clear hw4 hk3 a0 a1 a2 a3 a4 a5 b0 b1 b2 b3 b4 b5 bf af HB3 HN
    cases hb41 : isB t2 41 with
    | false =>
      rw [if_neg (by rw [hb41]; decide)] at HX
      refine (need_no p t2 41 _ HB4.out.1 (by omega) hb41).mono ?_; rintro e w5 ⟨rfl, h5⟩
      clear hb41
      go_wp2
      exact ⟨rfl, by rw [HX.out]; exact ⟨rfl, HB4.out.2.2.2.trans h5⟩⟩
    | true =>
      rw [if_pos hb41] at HX
      refine (need_yes p t2 41 _ HB4.out.1 (by omega) hb41).mono ?_; rintro e w5 ⟨rfl, h5, h6⟩
      have HB5 := hide (HB4.out.step h5 h6 h2p h3p)
      have HN5 := hide (HN4.out.keepR hpl2 h6)
      clear hb41 h5 h6 HB4 HN4
      have a0 := HB5.out.2.2.1.cell (i := 0) rfl
      have a1 := HB5.out.2.2.1.cell (i := 1) rfl
      have a2 := HB5.out.2.2.1.cell (i := 2) rfl
      have a3 := HB5.out.2.2.1.cell (i := 3) rfl
      have a4 := HB5.out.2.2.1.cell (i := 4) rfl
      have a5 := HB5.out.2.2.1.cell (i := 5) rfl
      have b0 := HB5.out.2.1.cell (i := 0) rfl
      have b1 := HB5.out.2.1.cell (i := 1) rfl
      have b2 := HB5.out.2.1.cell (i := 2) rfl
      have b3 := HB5.out.2.1.cell (i := 3) rfl
      have b4 := HB5.out.2.1.cell (i := 4) rfl
      have b5 := HB5.out.2.1.cell (i := 5) rfl
      have bf := fun i => HB5.out.2.1.frozen i
      have af := fun i => HB5.out.2.2.1.frozen i
      go_wp2
      refine bodyPost_ret (results_cell_row rfl _ _ z2 27 (ndL k [x0, x1, x2, x3] (.slice A m cap)).toArray (0, 0) _ rfl (nd_put HB5.out.2.1 k x0 x1 x2 x3 (.slice A m cap)) Tryd.underlying27 rfl (by kernel_rfl)) rfl ?_
      rw [HX.out]
      have hk := nd_keep w5 z2 k x0 x1 x2 x3 (.slice A m cap)
      exact ⟨_, rfl, (HN5.out.keepZ hzl2 hk).low hw2l, HB5.out.1.keepZ hk (fun e => h2p e.symm), HB5.out.2.2.2.own hk hzw2⟩
theorem tk_none {s : ByteArray} (h : tk s = none) : s.size = 0 := by
  unfold tk at h
  split at h
  · cases h
  · omega
theorem atom_any (p : Nat) (s : ByteArray) (R : ByteArray → Option (Nd × ByteArray)) (w : World) (h : Rd w p s) (hm : s.size ≤ 100000)
    (hR : ∀ u W, u.size < s.size → Rd W p u → KeepR p w W → Calls Tryd.prog 27 #[.pointer (some ⟨p, 0, none⟩)] W (ResN p W (R u))) (hRb : ∀ u n v, R u = some (n, v) → v.size ≤ u.size) :
    Calls Tryd.prog 60 #[.pointer (some ⟨p, 0, none⟩)] w (ResN p w (atomE R s)) := by
  cases ht : tk s with
  | none => exact atom_end p s R w h hm ht
  | some bt =>
    obtain ⟨b, t⟩ := bt
    by_cases h40 : b = 40
    · subst h40; exact atom_par p s t R w h hm ht hR hRb
    by_cases h91 : b = 91
    · subst h91; exact atom_bra p s t R w h hm ht
    by_cases h46 : b = 46
    · subst h46; exact atom_dot p s t R w h hm ht
    by_cases h92 : b = 92
    · subst h92; exact atom_esc p s t R w h hm ht
    by_cases hno : b = 41 ∨ b = 93 ∨ b = 124 ∨ b = 42 ∨ b = 43 ∨ b = 63
    · exact atom_bad p s t R w h hm b ht hno
    · exact atom_lit p s t b R w h hm ht h40 h91 h46 h92 hno
end Go.Proofs.YtfamoikmfbpigaaDoor
