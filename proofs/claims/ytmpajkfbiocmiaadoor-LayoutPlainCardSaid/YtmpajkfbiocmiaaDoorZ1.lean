/- The frame of a law's proof: a call that answers true, and of which 'Below' is known, meets its specification. Opening a slice whose elements are laid in k cells each, whatever they are. A range over a function, opened by hand: the iterator is called in the world where the loop's record lies; a call of yield is one round of the body. Plain facts on how many cells runes take. No program in sight. Plain: what a screen shows: when its rows may be. No program in sight. Plain facts on UTF-8: what limnerref01 reckons is what the model's own decoder says. No program in sight. Contract of limnerref01.Put. Contracts of widths.in and widths.Of. A block that is known whole. No program in sight. Where a screen's cells lie. Contracts of the small functions of grids and of its reference: may, style, Blank. Plain: a rune put into a row of a screen. No program in sight. Two cells of a screen, compared by the program. Contract of grids.row. -/
import Derived.Test.YtmpajkfbiocmiaaDoorRows
import Derived.WalkKit
import Derived.ProofKit
import Derived.OpenShut
import Derived.ShutString
import Derived.SliceStrings
import Derived.SizedLaws
import Derived.JoinedCond
import Derived.RangeFuncNested
import Derived.RangeFuncBound
import Derived.RangeFuncCalls
import Derived.RangeFuncLeaves
import Derived.Shelf.Abstract
import Derived.Shelf.RegionOpen
import Derived.OwnWalkIn
import Derived.TacticsInMore
import Derived.LoopNIn
import Derived.LoopIn
import Derived.Lib.Strings
import Derived.Laws.BytesArg
import Derived.Laws.Strings
import Derived.WideShapes
import Derived.WalkSpells
import Derived.WalkLawsBesides
import Derived.Test.YtmpajkfbiocmiaaDoorShelf
import Derived.Deep.QuietTactic
import Derived.BigQuiet
import Derived.Below
import Derived.RangeFuncBox
import Derived.OwnWalk
import Derived.Laws.OwnMore
import Derived.Maps.AppendAt
import Derived.Deep.RegionHeld3
import Derived.Deep.DeepFit
import Derived.Laws.StructEq
import Derived.KernelRfl
namespace Go.Proofs.YtmpajkfbiocmiaaDoor
open Go.ChangeShapes Go.WideShapes Go.ChangeAt Go.RowKit
open Go.ChangeMaps (open_string)

theorem own : ownKnob Tryd.prog.godebug = none := by kernel_rfl
theorem laidOut : laidOutB Tryd.prog = true := by kernel_rfl

section
variable {H : Type} {enc : TypeId × Value → H}
theorem trodAll_below {W W' : World} (hb : Below W.heap.size W W') {sp : Nat → Bool} : ∀ {ts : List TypeId} {vs : List Value} {ds : List (DataW H)} {ps : List MemPlace},
    (∀ t ∈ ts, Tryd.prog.readableRec t = true ∧ t < Tryd.prog.types.size) → DataW.TrodAll enc Tryd.prog W 0 (fun _ => true) true ts vs ds ps → (∀ x ∈ ps, x.block < W.heap.size) → (∀ x ∈ ps, sp x.block = true) →
    DataW.TrodAll enc Tryd.prog W' 0 sp true ts vs ds ps
  | [], [], [], _, _, h, _, _ => h
  | _ :: _, _ :: _, _ :: _, _, ht, ⟨p, q, h1, h2, e⟩, hlt, hs =>
    ⟨p, q, WideElems.Trod_stays laidOut (ht _ (List.mem_cons_self ..)).1 (ht _ (List.mem_cons_self ..)).2 h1 (fun x hx => hb.same (hlt x (by rw [e]; exact List.mem_append_left _ hx))) (fun x hx => hs x (by rw [e]; exact List.mem_append_left _ hx)),
      trodAll_below hb (fun t h => ht t (List.mem_cons_of_mem _ h)) h2 (fun x hx => hlt x (by rw [e]; exact List.mem_append_right _ hx)) (fun x hx => hs x (by rw [e]; exact List.mem_append_right _ hx)), e⟩
  | [], [], _ :: _, _, _, h, _, _ => h.elim
  | [], _ :: _, _, _, _, h, _, _ => h.elim
  | _ :: _, [], _, _, _, h, _, _ => h.elim
  | _ :: _, _ :: _, [], _, _, h, _, _ => h.elim
theorem trodAll_length {P : Program} {W : World} {b : Nat} {sp : Nat → Bool} {hd : Bool} : ∀ {ts : List TypeId} {vs : List Value} {ds : List (DataW H)} {ps : List MemPlace}, DataW.TrodAll enc P W b sp hd ts vs ds ps → ds.length = ts.length
  | [], [], [], _, _ => rfl
  | _ :: _, _ :: _, _ :: _, _, ⟨_, _, _, h2, _⟩ => by simp [trodAll_length h2]
  | [], [], _ :: _, _, h => h.elim
  | [], _ :: _, _, _, h => h.elim
  | _ :: _, [], _, _, h => h.elim
  | _ :: _, _ :: _, [], _, h => h.elim

/-- A call that answered true, and let all that lay there be as it was, meets the law's specification. -/
theorem law_post {f : Func} {s : ChangeSpec} {tb : TypeId} {W W' : World} {args : Array Value} {ds gs : List (DataW H)} {before : List MemPlace}
    (hv : s.vars = []) (hfn : ∀ ds : List (DataW H), ds.length = f.params.size → s.fn H ds = { results := [.lit (.bool true)], args := ds })
    (hr : f.resultTypes = #[tb]) (htb : Tryd.prog.underlying tb = some .bool) (hts : ∀ t ∈ f.params.toList, Tryd.prog.readableRec t = true ∧ t < Tryd.prog.types.size)
    (hW : DataW.Whole enc Tryd.prog f.params.toList s.vars false W args.toList ds gs before) (hb : Below W.heap.size W W') :
    s.post enc Tryd.prog f false true false false W args (.bool true) W' := by
  have hW' := hW
  have hlt : ∀ p ∈ before, p.block < W.heap.size := fun p hp => hW.lt p hp
  obtain ⟨p, q, hA, hV, e, _, _⟩ := hW
  rw [hv] at hV
  obtain ⟨rfl, rfl⟩ := trodVars_none hV
  simp only [List.append_nil] at e
  subst e
  have hl := trodAll_length hA
  have hF := hfn ds (by simpa using hl)
  refine ⟨ds, [], before, [], before, [], hW', ?_, ?_, ?_, ?_, fun h => by cases h⟩
  · rw [List.append_nil, hF, hr]
    exact trodAll_cons_mk (shut_bool htb true) trodAll_mk0
  · rw [List.append_nil, hF]
    exact trodAll_below hb hts hA hlt (fun x hx => by simpa using hlt x hx)
  · rw [hv, List.append_nil, hF]; rfl
  · exact World.keptBut_mono (fun p hp => ⟨hp, by simpa using hp⟩) (hb.frame (· ∈ before))

theorem okWide_array {P : Program} {w : World} {r : Reach} {b : Nat} {t e : TypeId} {n : Nat} {v : Value} (ht : P.underlying t = some (.array n e)) (h : Value.okWide P w r b t v) : ∃ cs, v = .agg cs ∧ cs.size = P.cellsOf t := by
  unfold Value.okWide at h
  rw [ht] at h
  obtain ⟨cs, e, hs, _⟩ := h
  exact ⟨cs, e, hs⟩
end
end Go.Proofs.YtmpajkfbiocmiaaDoor
namespace Go.Proofs.YtmpajkfbiocmiaaDoor
open Go.ChangeShapes Go.WideShapes Go.ChangeAt Go.RowKit

theorem okWide_structP {P : Program} {w : World} {r : Reach} {b : Nat} {t : TypeId} {fs : Array Field} {v : Value} (ht : P.underlying t = some (.struct fs)) (h : Value.okWide P w r b t v) : ∃ cs, v = .agg cs ∧ cs.size = P.cellsOf t := by
  unfold Value.okWide at h
  rw [ht] at h
  obtain ⟨cs, e, hs, _⟩ := h
  exact ⟨cs, e, hs⟩
theorem wfB {n : Int} (h : (Lit.int .u8 n).wf = true) : 0 ≤ n ∧ n ≤ 255 := by
  simp [Lit.wf] at h
  exact h
theorem wfI {n : Int} (h : (Lit.int .i64 n).wf = true) : -9223372036854775808 ≤ n ∧ n ≤ 9223372036854775807 := by
  simp [Lit.wf] at h
  exact h
theorem wfR {n : Int} (h : (Lit.int .i32 n).wf = true) : -2147483648 ≤ n ∧ n ≤ 2147483647 := by
  simp [Lit.wf] at h
  exact h

/-- Where the elements of a row lie, each in k cells. -/
def RowOf {α : Type} (W : World) (k : Nat) (f : α → List Value) (A : Option Addr) (l : List α) : Prop :=
  ∀ j x, l[j]? = some x → ∃ b o, A = some ⟨b, o, none⟩ ∧ b < W.heap.size ∧ ∀ i u, (f x)[i]? = some u → W.cell? ⟨b, o + j * k + i, none⟩ = some u
theorem RowOf.below {α : Type} {A W : World} {k : Nat} {f : α → List Value} {a : Option Addr} {l : List α} (h : RowOf A k f a l) (hb : Below A.heap.size A W) : RowOf W k f a l := by
  intro j x hx
  obtain ⟨b, o, e, hlt, hc⟩ := h j x hx
  exact ⟨b, o, e, Nat.lt_of_lt_of_le hlt hb.size, fun i u hu => (hb.cell (p := ⟨b, o + j * k + i, none⟩) hlt).trans (hc i u hu)⟩

theorem build_list {α : Type} (p : Nat → α → Prop) : ∀ n, (∀ i, i < n → ∃ a, p i a) → ∃ l : List α, l.length = n ∧ ∀ i a, l[i]? = some a → p i a
  | 0, _ => ⟨[], rfl, fun i a h => by simp at h⟩
  | n + 1, h => by
    obtain ⟨l, hl, hp⟩ := build_list p n (fun i hi => h i (by omega))
    obtain ⟨a, ha⟩ := h n (by omega)
    refine ⟨l ++ [a], by simp [hl], fun i b hb => ?_⟩
    by_cases hi : i < n
    · rw [List.getElem?_append_left (by omega)] at hb
      exact hp i b hb
    · have := (List.getElem?_eq_some_iff.1 hb).1
      simp [hl] at this
      obtain rfl : i = n := by omega
      rw [List.getElem?_append_right (by omega), hl, Nat.sub_self] at hb
      obtain rfl : a = b := by simpa using hb
      exact ha

section
variable {H : Type} {enc : TypeId × Value → H}
theorem rows_of_cells {P : Program} {α : Type} {w : World} {t e : TypeId} {cs : List Value} {x : DataW H × List MemPlace} {fuel : Nat} (k : Nat) (hk : 0 < k) (f : α → List Value) (R : α → Prop)
    (ht : P.underlying t = some (.slice e)) (hc : P.cellsOf e = k)
    (hel : ∀ (n : Nat) (cs : List Value) (x : DataW H × List MemPlace), cs.length = k → DataW.trod enc P w 0 (fun _ => true) true n e cs = some x → ∃ a : α, cs = f a ∧ R a)
    (hf : DataW.trod enc P w 0 (fun _ => true) true fuel t cs = some x) :
    ∃ (A : Option Addr) (cap : Nat) (l : List α), cs = [.slice A l.length cap] ∧ l.length ≤ cap ∧ cap ≤ maxLen ∧ (∀ x ∈ l, R x) ∧ (A = none → cap = 0) ∧ RowOf w k f A l := by
  rcases DataW.trod_slice ht hf with ⟨hcs, _⟩ | ⟨a, len, cap, elems, rest, n, rfl, hcs, _, _, hlen, hcap, hel2, hi, _, _⟩
  · exact ⟨none, 0, [], by rw [hcs]; rfl, Nat.le_refl _, by unfold maxLen; omega, fun x h => by simp at h, fun _ => rfl, fun j x h => by simp at h⟩
  · rw [hc] at hi
    obtain ⟨l, hl, hp⟩ := build_list (fun i (y : α) => R y ∧ ∃ b o, some a = some (⟨b, o, none⟩ : Addr) ∧ b < w.heap.size ∧ ∀ q u, (f y)[q]? = some u → w.cell? ⟨b, o + i * k + q, none⟩ = some u) len (fun i hlt => by
      have h1 := hi i hlt
      rw [List.getElem?_eq_getElem (show i < elems.length by omega)] at h1
      obtain ⟨cs', h2, h3⟩ := Option.bind_eq_some_iff.1 h1
      obtain ⟨_, h4, h5⟩ := World.cells?_some h2
      obtain ⟨y, rfl, hy⟩ := hel n cs' _ h4 h3
      obtain ⟨b, off, spot⟩ := a
      have hspot : spot = none := by
        have g1 := hi 0 (by omega)
        rw [List.getElem?_eq_getElem (show 0 < elems.length by omega)] at g1
        obtain ⟨cs0, g2, _⟩ := Option.bind_eq_some_iff.1 g1
        obtain ⟨_, g4, g5⟩ := World.cells?_some g2
        have g6 := g5 0 hk
        rw [List.getElem?_eq_getElem (by omega)] at g6
        simpa [Addr.add] using World.cell?_spot g6
      subst hspot
      have hc0 := h5 0 hk
      rw [List.getElem?_eq_getElem (by omega)] at hc0
      simp only [Addr.add_lit] at hc0 h5
      refine ⟨y, hy, b, off, rfl, World.block_lt_of_cell? _ _ hc0, fun q u hu => ?_⟩
      rw [h5 q (by have := (List.getElem?_eq_some_iff.1 hu).1; omega)]
      exact hu)
    refine ⟨some a, cap, l, by rw [hcs, hl], by omega, hcap, fun x hx => ?_, (fun e => by cases e), fun j x hx => (hp j x hx).2⟩
    obtain ⟨i, hlt, rfl⟩ := List.getElem_of_mem hx
    exact (hp i _ (List.getElem?_eq_getElem hlt)).1
theorem open_rows {P : Program} {α : Type} {w : World} {t e : TypeId} {v : Value} {d : DataW H} {p : List MemPlace} {b0 : Nat} (k : Nat) (hk : 0 < k) (f : α → List Value) (R : α → Prop)
    (ht : P.underlying t = some (.slice e)) (hc : P.cellsOf e = k)
    (hel : ∀ (n : Nat) (cs : List Value) (x : DataW H × List MemPlace), cs.length = k → DataW.trod enc P w 0 (fun _ => true) true n e cs = some x → ∃ a : α, cs = f a ∧ R a)
    (hv : Value.okWide P w .any b0 t v) (h : DataW.Trod enc P w 0 (fun _ => true) true t v d p) :
    ∃ (A : Option Addr) (cap : Nat) (l : List α), v = .slice A l.length cap ∧ l.length ≤ cap ∧ cap ≤ maxLen ∧ (∀ x ∈ l, R x) ∧ (A = none → cap = 0) ∧ RowOf w k f A l := by
  obtain ⟨a0, len, cap, rfl⟩ := okWide_slice ht hv
  obtain ⟨fuel, hf⟩ := h
  obtain ⟨A, cap', l, e1, r⟩ := rows_of_cells k hk f R ht hc hel hf
  simp [Value.cells] at e1
  obtain ⟨rfl, rfl, rfl⟩ := e1
  exact ⟨_, _, l, rfl, r⟩
end
end Go.Proofs.YtmpajkfbiocmiaaDoor
namespace Go.Proofs.YtmpajkfbiocmiaaDoor
open Go.RowKit Go.Shelf
variable {F : Fence} {n : Nat} {P : Program}

theorem range_open {g : Operand} {ps : Array Tmp} {assign body : Code} {Q : Exit → Act → World → Prop} {a : Act} {w : World} (hro : F.round = none) (h1 : 1 ≤ n) {gf : Nat} {lb : Array Value}
    (hg : a.eval g = .func (.func gf) #[] lb) (hF : F.fn gf) (eg : ∀ args w, (callFunc gf args).run P w = .ok (.enter gf args) w)
    (h : ∀ (fn : FuncId) (rec : LoopState → Option Code → Loop), F.fn fn → (rec = fun st pe => { state := st, pending := pe, fn, tmps := a.tmps, params := ps, assign, body, defers := w.heap.size }) →
      CallsIn F (n - 1) P gf (#[.func (.yield (w.heap.size + 1)) #[] #[]] ++ lb) ((w.alloc (.deferred (some []))).alloc (.loop (rec .ready none)))
        (rangePost F n P (w.heap.size + 1) Q { a with defers := { target := .collected w.heap.size, args := #[] } :: a.defers })) :
    (Code.rangeFunc g ps assign body).wpIn F n P Q a w := by
  refine wpIn_rangeFunc fun fn hfn => ?_
  rw [hro]
  have h9 := h fn _ hfn rfl
  have he := run_enterLoop_outer (P := P) (w := w) fn a.tmps ps assign body
  obtain ⟨W1, hW1⟩ : ∃ W1, (w.alloc (.deferred (some []))).alloc (.loop { state := .ready, pending := none, fn, tmps := a.tmps, params := ps, assign, body, defers := w.heap.size }) = W1 := ⟨_, rfl⟩
  rw [hW1] at he
  have h9 : CallsIn F (n - 1) P gf (#[.func (.yield (w.heap.size + 1)) #[] #[]] ++ lb) W1 (rangePost F n P (w.heap.size + 1) Q { a with defers := { target := .collected w.heap.size, args := #[] } :: a.defers }) := by rw [← hW1]; exact h9
  clear hW1 h
  refine ⟨w.heap.size + 1, [{ target := .collected w.heap.size, args := #[] }], W1, { target := .fn (.func gf) lb, args := #[.func (.yield (w.heap.size + 1)) #[] #[]] }, W1, gf, #[.func (.yield (w.heap.size + 1)) #[] #[]] ++ lb, W1, ?_, ?_, ?_, ?_, fun _ => h1, ?_⟩
  · exact he
  · simp only [resolve, hg]
    simp [go_sem]
  · intro f' hf'; simp [Target.leads] at hf'; subst hf'; exact hF
  · simp [invoke, go_sem, eg]
  · exact h9

theorem round_at {l : Nat} {r : Loop} {W : World} {tm : Array Value} {a1 : Act} {R : Ending → World → Prop} (h : W.heap[l]? = some (.loop r)) (hr : r.state = .ready) (hF : F.fn r.fn)
    (hassign : ∀ K : Act → World → Prop, K a1 W → r.assign.wpIn (F.inRound l) n P (Exit.then K (fun _ _ _ => False)) { tmps := tm, defers := [] } W)
    (hbody : r.body.wpIn (F.inRound l) n P (roundPost P l R) a1 (W.putObj l (.loop { r with state := .busy }))) :
    RoundIn F n P l r.fn tm r.assign r.body W R :=
  roundIn_of_wpIn hF (hassign _ ⟨_, run_beginRound h hr, hbody⟩)
theorem end_ex {l : Nat} {r : Loop} {pe : Option Code} {W : World} (h : W.heap[l]? = some (.loop r)) (hb : r.state ≠ .busy) (hp : r.pending = pe) : ∃ o', (Instr.endLoop l).run P W = .ok pe (W.putObj l o') := by
  subst hp
  exact ⟨_, run_endLoop h hb⟩
theorem round_end {l : Nat} {rec : LoopState → Option Code → Loop} {W : World} (hR : ∀ st pe st' pe', { rec st pe with state := st', pending := pe' } = rec st' pe') (h : W.heap[l]? = some (.loop (rec .busy none))) (jump : Option Code) :
    (Instr.endRound l jump).run P W = .ok (.bool jump.isNone) (W.putObj l (.loop (rec (if jump.isNone then .ready else .done) jump))) := by
  rw [run_endRound jump h, hR]
theorem rec_state {rec : LoopState → Option Code → Loop} (hR : ∀ st pe st' pe', { rec st pe with state := st', pending := pe' } = rec st' pe') (hP : ∀ st pe, (rec st pe).pending = pe ∧ (rec st pe).state = st) : { rec .ready none with state := .busy } = rec .busy none :=
  (congrArg (fun p => ({ rec .ready none with state := .busy, pending := p } : Loop)) (hP .ready none).1).trans (hR .ready none .busy none)
theorem putObj_box {W : World} {B l : Nat} {t : TypeId} {v : Value} {o o' : Obj} (h : Boxed W B t v) (hl : W.heap[l]? = some o) (ho : o.isCells = false) : Boxed (W.putObj l o') B t v := by
  refine (World.putObj_heap_other (fun e => ?_)).trans h
  subst e
  rw [show W.heap[B]? = _ from h] at hl
  cases hl; cases ho
end Go.Proofs.YtmpajkfbiocmiaaDoor
namespace Go.Proofs.YtmpajkfbiocmiaaDoor

def hid : List (Int × Int) := [(0, 31), (127, 159), (768, 879), (8203, 8207), (8232, 8238), (55296, 57343), (65024, 65039), (65279, 65279)]
def wid : List (Int × Int) := [(4352, 4447), (11904, 12350), (12353, 13311), (13312, 19903), (19968, 40959), (40960, 42191), (44032, 55203), (63744, 64255), (65072, 65135), (65281, 65376), (65504, 65510), (127744, 128591), (129280, 129535), (131072, 262141)]
def hid2 : List (Int × Int) := [(127, 159), (768, 879), (8203, 8207), (8232, 8238), (65024, 65039), (65279, 65279)]

/-- Is r in one of the runs? -/
def among (l : List (Int × Int)) (r : Int) : Bool := l.any fun p => decide (p.1 ≤ r) && decide (r ≤ p.2)
/-- What the search finds: the first run that ends at r or behind. -/
def place (l : List (Int × Int)) (r : Int) : Nat := (List.range l.length).countP fun i => !decide (r ≤ (l[i]?.getD (0, 0)).2)

theorem place_eq (l : List (Int × Int)) (r : Int) : place l r = l.countP fun p => !decide (r ≤ p.2) := by
  unfold place
  have h : l = (List.range l.length).map fun i => l[i]?.getD (0, 0) := by
    apply List.ext_getElem
    · simp
    · intro i h1 h2
      simp [h1]
  conv => rhs; rw [h]
  rw [List.countP_map]
  rfl
/-- The runs rise: each ends ahead of where the next ones begin, and none ends ahead of its beginning. -/
def Rise (l : List (Int × Int)) : Prop := l.Pairwise (fun p q => p.2 < q.1) ∧ ∀ p ∈ l, p.1 ≤ p.2
instance (l : List (Int × Int)) : Decidable (Rise l) := by unfold Rise; infer_instance
theorem rise_hid : Rise hid := by decide
theorem rise_wid : Rise wid := by decide
theorem Rise.tail {p : Int × Int} {l : List (Int × Int)} (h : Rise (p :: l)) : Rise l := ⟨(List.pairwise_cons.1 h.1).2, fun q hq => h.2 q (List.mem_cons_of_mem _ hq)⟩

theorem place_le (l : List (Int × Int)) (r : Int) : place l r ≤ l.length := by rw [place_eq]; exact List.countP_le_length
/-- The test behind the search tells whether r is in one of the runs. -/
theorem among_place : ∀ (l : List (Int × Int)) (r : Int), Rise l → (decide (place l r < l.length) && decide ((l[place l r]?.getD (0, 0)).1 ≤ r)) = among l r
  | [], r, _ => by simp [place_eq, among]
  | p :: l, r, h => by
    have hr := List.pairwise_cons.1 h.1
    by_cases hp : r ≤ p.2
    · have hz : l.countP (fun q => !decide (r ≤ q.2)) = 0 := by
        rw [List.countP_eq_zero]
        intro q hq
        have := hr.1 q hq
        have := h.2 q (List.mem_cons_of_mem _ hq)
        simp; omega
      have e : place (p :: l) r = 0 := by rw [place_eq, List.countP_cons, hz]; simp [hp]
      have hn : l.any (fun q => decide (q.1 ≤ r) && decide (r ≤ q.2)) = false := by
        rw [List.any_eq_false]
        intro q hq
        have := hr.1 q hq
        simp; omega
      rw [e, among, List.any_cons, hn]
      simp [hp]
    · have e : place (p :: l) r = place l r + 1 := by rw [place_eq, place_eq, List.countP_cons]; simp [hp]
      have ih := among_place l r h.tail
      rw [e]
      have e2 : among (p :: l) r = among l r := by simp [among, hp]
      rw [e2, ← ih]
      simp

/-- How many cells a rune takes. -/
def cells (r : Int) : Int := if r < 0 ∨ 1114111 < r ∨ among hid r = true then 0 else if among wid r = true then 2 else 1
theorem cells_bd (r : Int) : 0 ≤ cells r ∧ cells r ≤ 2 := by unfold cells; (repeat' split) <;> omega
def shown (r : Int) : Int := if cells r = 0 then 65533 else r
theorem place_mono {l : List (Int × Int)} (h : Rise l) (r : Int) : ∀ a b, a ≤ b → b < l.length → decide (r ≤ (l[a]?.getD (0, 0)).2) = true → decide (r ≤ (l[b]?.getD (0, 0)).2) = true := by
  intro a b hab hb ha
  rcases Nat.lt_or_ge a b with hlt | hge
  · have h1 := List.pairwise_iff_getElem.1 h.1 a b (by omega) hb hlt
    have h2 := h.2 l[b] (List.getElem_mem hb)
    simp only [List.getElem?_eq_getElem (show a < l.length by omega), List.getElem?_eq_getElem hb, Option.getD_some, decide_eq_true_eq] at ha ⊢
    omega
  · obtain rfl : a = b := by omega
    exact ha
end Go.Proofs.YtmpajkfbiocmiaaDoor
namespace Go.Proofs.YtmpajkfbiocmiaaDoor

/-- A cell. -/
structure Cl where
  r : Int
  w : Int
  fg : Int
  bo : Bool
  un : Bool
  iv : Bool
deriving DecidableEq
def blankC : Cl := ⟨32, 1, 0, false, false, false⟩
def halfC (c : Cl) : Cl := ⟨0, 0, c.fg, c.bo, c.un, c.iv⟩
def styC (c : Cl) : Bool := decide (0 ≤ c.fg ∧ c.fg ≤ 8)
def styE (c d : Cl) : Bool := decide (c.fg = d.fg) && (c.bo == d.bo) && (c.un == d.un) && (c.iv == d.iv)
/-- May a cell be, between its neighbors in the row? -/
def cellB (p : Option Cl) (c : Cl) (n : Option Cl) : Bool :=
  styC c && decide (0 ≤ c.w ∧ c.w ≤ 2) && (decide (c.w = 0) || decide (cells c.r = c.w)) && (decide (c.w ≠ 2) || n.any fun d => decide (d.w = 0)) && (decide (c.w ≠ 0) || p.any fun d => decide (d.w = 2) && decide (c.r = 0) && styE c d)
def okFrom (p : Option Cl) : List Cl → Bool
  | [] => true
  | c :: t => cellB p c t.head? && okFrom (some c) t
/-- The program's way: rune by rune. -/
def rowB : List Cl → Bool
  | [] => true
  | [c] => decide (c.w = 1) && decide (cells c.r = 1) && styC c
  | c :: d :: t => if c.w = 1 then decide (cells c.r = 1) && styC c && rowB (d :: t) else if c.w = 2 then decide (cells c.r = 2) && styC c && decide (d = halfC c) && rowB t else false
theorem half_iff (c d : Cl) : d = halfC c ↔ d.w = 0 ∧ d.r = 0 ∧ styE d c = true := by
  obtain ⟨r, w, fg, bo, un, iv⟩ := d
  simp only [halfC, styE, Cl.mk.injEq, Bool.and_eq_true, decide_eq_true_eq, beq_iff_eq]
  constructor
  · rintro ⟨a, b, c, d, e, f⟩; exact ⟨b, a, ⟨⟨c, d⟩, e⟩, f⟩
  · rintro ⟨b, a, ⟨⟨c, d⟩, e⟩, f⟩; exact ⟨a, b, c, d, e, f⟩
theorem sty_eq {c d : Cl} (h : styE d c = true) : styC d = styC c := by
  simp only [styE, Bool.and_eq_true, decide_eq_true_eq] at h
  unfold styC
  rw [h.1.1.1]
theorem cell_1 {p n : Option Cl} {c : Cl} (h : c.w = 1) : cellB p c n = (decide (cells c.r = 1) && styC c) := by
  unfold cellB
  rw [h]
  cases styC c <;> simp
theorem cell_2 {p n : Option Cl} {c : Cl} (h : c.w = 2) : cellB p c n = (decide (cells c.r = 2) && styC c && n.any fun d => decide (d.w = 0)) := by
  unfold cellB
  rw [h]
  cases styC c <;> simp
theorem cell_0 {p n : Option Cl} {c : Cl} (h : c.w = 0) : cellB p c n = (styC c && p.any fun d => decide (d.w = 2) && decide (c.r = 0) && styE c d) := by
  unfold cellB
  rw [h]
  cases styC c <;> simp
theorem cell_bad {p n : Option Cl} {c : Cl} (h : c.w < 0 ∨ 2 < c.w) : cellB p c n = false := by
  unfold cellB
  have : decide (0 ≤ c.w ∧ c.w ≤ 2) = false := by simp; omega
  rw [this]; simp
theorem row_ok : ∀ (l : List Cl) (p : Option Cl), (∀ d, p = some d → d.w ≠ 2) → rowB l = okFrom p l
  | [], p, hp => rfl
  | [c], p, hp => by
    simp only [rowB, okFrom, List.head?_nil, Bool.and_true]
    by_cases h1 : c.w = 1
    · rw [cell_1 h1, h1]; simp
    by_cases h2 : c.w = 2
    · rw [cell_2 h2, h2]; simp
    by_cases h0 : c.w = 0
    · rw [cell_0 h0, h0]
      cases p with
      | none => simp
      | some d => have := hp d rfl; simp [this]
    · rw [cell_bad (by omega)]; simp [h1]
  | c :: d :: t, p, hp => by
    rw [rowB, okFrom, List.head?_cons]
    by_cases h1 : c.w = 1
    · rw [if_pos h1, cell_1 h1, row_ok (d :: t) (some c) (fun e he => by injection he with he; subst he; omega)]
    rw [if_neg h1]
    by_cases h2 : c.w = 2
    · rw [if_pos h2, cell_2 h2, okFrom]
      simp only [Option.any_some]
      by_cases hd : d = halfC c
      · have h3 := (half_iff c d).1 hd
        rw [cell_0 h3.1, decide_eq_true hd, decide_eq_true h3.1, row_ok t (some d) (fun e he => by injection he with he; subst he; omega)]
        rw [sty_eq h3.2.2]
        simp only [Option.any_some, h2, h3.2.1, h3.2.2, decide_true, Bool.and_true]
        cases styC c <;> simp
      · rw [decide_eq_false hd]
        by_cases h3 : d.w = 0
        · have h4 : ¬ (d.r = 0 ∧ styE d c = true) := fun h => hd ((half_iff c d).2 ⟨h3, h⟩)
          rw [cell_0 h3]
          simp only [Option.any_some, h2, decide_true, Bool.true_and]
          have : (decide (d.r = 0) && styE d c) = false := by
            cases hs : styE d c
            · simp
            · simp; intro hr; exact h4 ⟨hr, hs⟩
          rw [this]; simp
        · rw [decide_eq_false h3]; simp
    rw [if_neg h2]
    by_cases h0 : c.w = 0
    · rw [cell_0 h0]
      cases p with
      | none => simp
      | some e => have := hp e rfl; simp [this]
    · rw [cell_bad (by omega)]; simp
/-- Cell by cell. -/
theorem okFrom_iff (p : Option Cl) (l : List Cl) : okFrom p l = true ↔ ∀ j c, l[j]? = some c → cellB (if j = 0 then p else l[j - 1]?) c l[j + 1]? = true := by
  induction l generalizing p with
  | nil => simp [okFrom]
  | cons a t ih =>
    rw [okFrom, Bool.and_eq_true, ih]
    constructor
    · rintro ⟨h1, h2⟩ j c hj
      cases j with
      | zero =>
        obtain rfl : a = c := by simpa using hj
        simp only [if_true, List.getElem?_cons_succ, Nat.zero_add]
        rw [← List.head?_eq_getElem?]; exact h1
      | succ j =>
        have h3 := h2 j c (by simpa using hj)
        rw [if_neg (by omega), Nat.add_sub_cancel, List.getElem?_cons_succ]
        cases j with
        | zero => simpa using h3
        | succ j => simpa using h3
    · intro h
      refine ⟨by have := h 0 a rfl; simp only [if_true, List.getElem?_cons_succ, Nat.zero_add] at this; rw [List.head?_eq_getElem?]; exact this, fun j c hj => ?_⟩
      have h3 := h (j + 1) c (by simpa using hj)
      rw [if_neg (by omega), Nat.add_sub_cancel, List.getElem?_cons_succ] at h3
      cases j with
      | zero => simpa using h3
      | succ j => simpa using h3
/-- A row of a screen. -/
def rowL (L : List Cl) (cols k : Nat) : List Cl := (L.drop (k * cols)).take cols
def validL (L : List Cl) (rows cols : Nat) : Bool := (List.range rows).all fun k => rowB (rowL L cols k)
/-- May the cell at a place be? -/
def okAt (L : List Cl) (cols i : Nat) (c : Cl) : Bool := cellB (if i % cols = 0 then none else L[i - 1]?) c (if i % cols = cols - 1 then none else L[i + 1]?)
theorem rowL_at {L : List Cl} {cols k j : Nat} (h : j < cols) : (rowL L cols k)[j]? = L[k * cols + j]? := by
  unfold rowL
  rw [List.getElem?_take_of_lt h, List.getElem?_drop]
theorem rowL_end {L : List Cl} {cols k j : Nat} (h : cols ≤ j) : (rowL L cols k)[j]? = none := by
  unfold rowL
  exact List.getElem?_take_eq_none h
theorem row_cells (L : List Cl) (cols k : Nat) (hc : 0 < cols) : rowB (rowL L cols k) = true ↔ ∀ j c, j < cols → L[k * cols + j]? = some c → okAt L cols (k * cols + j) c = true := by
  rw [row_ok _ none (fun d h => by cases h), okFrom_iff]
  have key : ∀ j c, j < cols → (cellB (if j = 0 then none else (rowL L cols k)[j - 1]?) c (rowL L cols k)[j + 1]? = okAt L cols (k * cols + j) c) := by
    intro j c hj
    unfold okAt
    have e : (k * cols + j) % cols = j := by rw [Nat.mul_comm, Nat.mul_add_mod, Nat.mod_eq_of_lt hj]
    rw [e]
    congr 1
    · by_cases h0 : j = 0
      · rw [if_pos h0, if_pos h0]
      · rw [if_neg h0, if_neg h0, rowL_at (by omega), show k * cols + j - 1 = k * cols + (j - 1) by omega]
    · by_cases h1 : j = cols - 1
      · rw [if_pos h1, rowL_end (by omega)]
      · rw [if_neg h1, rowL_at (by omega)]; rfl
  constructor
  · intro h j c hj hl
    rw [← key j c hj]
    exact h j c (by rw [rowL_at hj]; exact hl)
  · intro h j c hl
    by_cases hj : j < cols
    · rw [key j c hj]
      exact h j c hj (by rw [← rowL_at hj]; exact hl)
    · rw [rowL_end (by omega)] at hl; cases hl
/-- The two ways agree. -/
theorem valid_cells (L : List Cl) (rows cols : Nat) (hc : 0 < cols) (hL : L.length = rows * cols) : validL L rows cols = true ↔ ∀ i c, L[i]? = some c → okAt L cols i c = true := by
  unfold validL
  rw [List.all_eq_true]
  constructor
  · intro h i c hi
    have hlt := (List.getElem?_eq_some_iff.1 hi).1
    have hk : i / cols < rows := by rw [Nat.div_lt_iff_lt_mul hc, ← hL]; exact hlt
    have h2 := (row_cells L cols (i / cols) hc).1 (h _ (List.mem_range.2 hk)) (i % cols) c (Nat.mod_lt _ hc)
    rw [show i / cols * cols + i % cols = i by rw [Nat.mul_comm]; exact Nat.div_add_mod i cols] at h2
    exact h2 hi
  · intro h k hk
    rw [row_cells L cols k hc]
    exact fun j c hj hl => h _ c hl
def mayB (rows cols : Int) : Bool := decide (2 ≤ rows ∧ rows ≤ 100 ∧ 8 ≤ cols ∧ cols ≤ 200)
/-- A screen. -/
structure Fr where
  rows : Int
  cols : Int
  cs : List Cl
  row : Int
  col : Int
deriving DecidableEq
def noF : Fr := ⟨0, 0, [], 0, 0⟩
def curB (f : Fr) : Bool := decide (0 ≤ f.row ∧ f.row < f.rows ∧ 0 ≤ f.col ∧ f.col < f.cols)
def sizeB (f : Fr) : Bool := decide ((f.cs.length : Int) = f.rows * f.cols)
def validF (f : Fr) : Bool := mayB f.rows f.cols && sizeB f && curB f && validL f.cs f.rows.toNat f.cols.toNat
end Go.Proofs.YtmpajkfbiocmiaaDoor
namespace Go.Proofs.YtmpajkfbiocmiaaDoor

/-- What limnerref01.Put answers. -/
def putS (r : Int) : ByteArray := if Utf8.valid r then Utf8.encode r else ⟨#[]⟩

theorem putS_bad {r : Int} (h : r < 0 ∨ 1114111 < r ∨ (55296 ≤ r ∧ r ≤ 57343)) : putS r = ⟨#[]⟩ := by
  have : Utf8.valid r = false := by simp only [Utf8.valid, Bool.or_eq_false_iff, Bool.and_eq_false_iff, decide_eq_false_iff_not]; omega
  simp [putS, this]
theorem valid_of {r : Int} (h : (0 ≤ r ∧ r < 55296) ∨ (57344 ≤ r ∧ r ≤ 1114111)) : Utf8.valid r = true := by
  simp only [Utf8.valid, Bool.or_eq_true, Bool.and_eq_true, decide_eq_true_eq]; omega
theorem putS_1 {r : Int} (h0 : 0 ≤ r) (h : r < 128) : strOfNums [r] = putS r := by
  obtain ⟨n, rfl⟩ := Int.eq_ofNat_of_zero_le h0
  simp only [putS, valid_of (r := n) (by omega), if_true, Utf8.encode, strOfNums]
  simp only [Int.toNat_natCast]
  rw [if_pos (by omega)]
  simp
theorem putS_2 {r : Int} (h0 : 128 ≤ r) (h : r < 2048) : strOfNums [192 + r / 64, 128 + r % 64] = putS r := by
  obtain ⟨n, rfl⟩ := Int.eq_ofNat_of_zero_le (show 0 ≤ r by omega)
  simp only [putS, valid_of (r := n) (by omega), if_true, Utf8.encode, strOfNums]
  simp only [Int.toNat_natCast]
  rw [if_neg (by omega), if_pos (by omega)]
  simp only [List.map_cons, List.map_nil]
  rw [show (192 + (n : Int) / 64).toNat = 192 + n / 64 by omega, show (128 + (n : Int) % 64).toNat = 128 + n % 64 by omega]
theorem putS_3 {r : Int} (h0 : 2048 ≤ r) (h : r < 65536) (hv : r < 55296 ∨ 57344 ≤ r) : strOfNums [224 + r / 4096, 128 + r / 64 % 64, 128 + r % 64] = putS r := by
  obtain ⟨n, rfl⟩ := Int.eq_ofNat_of_zero_le (show 0 ≤ r by omega)
  simp only [putS, valid_of (r := n) (by omega), if_true, Utf8.encode, strOfNums]
  simp only [Int.toNat_natCast]
  rw [if_neg (by omega), if_neg (by omega), if_pos (by omega)]
  simp only [List.map_cons, List.map_nil]
  rw [show (224 + (n : Int) / 4096).toNat = 224 + n / 4096 by omega, show (128 + (n : Int) / 64 % 64).toNat = 128 + n / 64 % 64 by omega, show (128 + (n : Int) % 64).toNat = 128 + n % 64 by omega]
theorem putS_4 {r : Int} (h0 : 65536 ≤ r) (h : r ≤ 1114111) : strOfNums [240 + r / 262144, 128 + r / 4096 % 64, 128 + r / 64 % 64, 128 + r % 64] = putS r := by
  obtain ⟨n, rfl⟩ := Int.eq_ofNat_of_zero_le (show 0 ≤ r by omega)
  simp only [putS, valid_of (r := n) (by omega), if_true, Utf8.encode, strOfNums]
  simp only [Int.toNat_natCast]
  rw [if_neg (by omega), if_neg (by omega), if_neg (by omega)]
  simp only [List.map_cons, List.map_nil]
  rw [show (240 + (n : Int) / 262144).toNat = 240 + n / 262144 by omega, show (128 + (n : Int) / 4096 % 64).toNat = 128 + n / 4096 % 64 by omega, show (128 + (n : Int) / 64 % 64).toNat = 128 + n / 64 % 64 by omega, show (128 + (n : Int) % 64).toNat = 128 + n % 64 by omega]
def begN (c : Int) : Nat := if c < 128 then 1 else if c < 192 then 0 else if c < 224 then 2 else if c < 240 then 3 else if c < 248 then 4 else 0
def begR (c : Int) : Int := if c < 128 then c else if c < 192 then 0 else if c < 224 then c - 192 else if c < 240 then c - 224 else if c < 248 then c - 240 else 0
theorem begN_le (c : Int) : begN c ≤ 4 := by unfold begN; (repeat' split) <;> omega
theorem begR_le (c : Int) (h : 0 ≤ c) : 0 ≤ begR c ∧ begR c ≤ 127 := by unfold begR; (repeat' split) <;> omega
theorem get_of {s : ByteArray} {i : Nat} (h : i < s.size) : s.get! i = s[i] := by
  cases s with | mk d => exact getElem!_pos d i h
def acc (s : ByteArray) (i : Nat) : Nat → Int
  | 0 => 0
  | 1 => begR (s.get! i).toNat
  | j + 2 => acc s i (j + 1) * 64 + ((s.get! (i + (j + 1))).toNat % 64 : Nat)
theorem acc_succ (s : ByteArray) (i j : Nat) (h : 1 ≤ j) : acc s i (j + 1) = acc s i j * 64 + ((s.get! (i + j)).toNat % 64 : Nat) := by
  obtain ⟨k, rfl⟩ : ∃ k, j = k + 1 := ⟨j - 1, by omega⟩
  rfl
theorem acc_one {s : ByteArray} {i : Nat} (hi : i < s.size) : acc s i 1 = begR (s[i].toNat : Int) := by
  simp only [acc]; rw [get_of hi]
theorem acc_step {s : ByteArray} {i k : Nat} (h1 : 1 ≤ k) (h : i + k < s.size) : acc s i (k + 1) = acc s i k * 64 + (s[i + k].toNat : Int) % 64 := by
  rw [acc_succ s i k h1, get_of h]; omega
theorem rel_step {s : ByteArray} {i k : Nat} {x : Int} (hx : x = acc s i k) (h1 : 1 ≤ k) (h : i + k < s.size) : x * 64 + (s[i + k].toNat : Int) % 64 = acc s i (k + 1) := by
  rw [acc_step h1 h, hx]
theorem acc_bd (s : ByteArray) (i j : Nat) (h : j ≤ 3) : 0 ≤ acc s i j ∧ acc s i j ≤ 524287 := by
  have b1 := begR_le ((s.get! i).toNat : Int) (by omega)
  match j, h with
  | 0, _ => simp [acc]
  | 1, _ => simp only [acc]; omega
  | 2, _ => simp only [acc]; omega
  | 3, _ => simp only [acc]; omega

/-- What limnerref01.Next answers at a place that lies in the text. -/
def nxt (s : ByteArray) (i : Nat) : Int × Nat × Bool :=
  let n := begN (s.get! i).toNat
  if 0 < n ∧ i + n ≤ s.size ∧ putS (acc s i n) = s.extract i (i + n) then (acc s i n, n, true) else (65533, 1, false)

theorem nxt_bad {s : ByteArray} {i n : Nat} (hi : i < s.size) (hn : n = begN (s[i].toNat : Int)) (h : n = 0 ∨ ¬ i + n ≤ s.size ∨ ¬ putS (acc s i n) = s.extract i (i + n)) : nxt s i = (65533, 1, false) := by
  have e : begN ((s.get! i).toNat : Int) = n := by rw [get_of hi]; exact hn.symm
  unfold nxt; rw [e]; dsimp only; rw [if_neg (fun hh => h.elim (fun e => absurd hh.1 (by omega)) (fun h => h.elim (fun e => e hh.2.1) (fun e => e hh.2.2)))]
theorem nxt_good {s : ByteArray} {i n : Nat} (hi : i < s.size) (hn : n = begN (s[i].toNat : Int)) (h0 : 1 ≤ n) (h1 : i + n ≤ s.size) (h2 : putS (acc s i n) = s.extract i (i + n)) : nxt s i = (acc s i n, n, true) := by
  have e : begN ((s.get! i).toNat : Int) = n := by rw [get_of hi]; exact hn.symm
  unfold nxt; rw [e]; dsimp only; rw [if_pos ⟨h0, h1, h2⟩]
theorem toList_eq {a b : ByteArray} (h : (a.toList == b.toList) = true) : a = b := by
  have h := eq_of_beq h
  rw [ByteArray.toList_eq, ByteArray.toList_eq] at h
  exact WideShapes.bytes_inj h
theorem toList_ne {a b : ByteArray} (h : (a.toList == b.toList) = false) : ¬ a = b := by
  rintro rfl; simp at h


theorem sn1 (a : Int) : strOfNums [a] = ⟨#[UInt8.ofNat a.toNat]⟩ := rfl
theorem sn2 (a b : Int) : strOfNums [a, b] = ⟨#[UInt8.ofNat a.toNat, UInt8.ofNat b.toNat]⟩ := rfl
theorem sn3 (a b c : Int) : strOfNums [a, b, c] = ⟨#[UInt8.ofNat a.toNat, UInt8.ofNat b.toNat, UInt8.ofNat c.toNat]⟩ := rfl
theorem sn4 (a b c d : Int) : strOfNums [a, b, c, d] = ⟨#[UInt8.ofNat a.toNat, UInt8.ofNat b.toNat, UInt8.ofNat c.toNat, UInt8.ofNat d.toNat]⟩ := rfl
theorem ofNat_eq {n : Nat} {x : UInt8} (h : n < 256) : UInt8.ofNat n = x ↔ n = x.toNat := by
  constructor
  · rintro rfl; simp; omega
  · rintro rfl; simp
theorem ext_get (s : ByteArray) (i n : Nat) (h : i + n ≤ s.size) : s.extract i (i + n) = ⟨((List.range n).map fun j => s.get! (i + j)).toArray⟩ := by
  have hs : s.size = s.data.size := rfl
  have hx : (s.extract i (i + n)).data = s.data.extract i (i + n) := by simp
  have : (s.extract i (i + n)).data = ((List.range n).map fun j => s.get! (i + j)).toArray := by
    rw [hx]
    apply Array.ext
    · simp; omega
    · intro k h1 h2
      have hk : k < n := by simpa using h2
      simp only [Array.getElem_extract, List.getElem_toArray, List.getElem_map, List.getElem_range]
      rw [get_of (show i + k < s.size by omega)]
      rfl
  cases hq : s.extract i (i + n)
  rw [hq] at this
  exact congrArg _ this
theorem ext1 {s : ByteArray} {i : Nat} (h : i + 1 ≤ s.size) : s.extract i (i + 1) = ⟨#[s.get! i]⟩ := ext_get s i 1 h
theorem ext2 {s : ByteArray} {i : Nat} (h : i + 2 ≤ s.size) : s.extract i (i + 2) = ⟨#[s.get! i, s.get! (i + 1)]⟩ := ext_get s i 2 h
theorem ext3 {s : ByteArray} {i : Nat} (h : i + 3 ≤ s.size) : s.extract i (i + 3) = ⟨#[s.get! i, s.get! (i + 1), s.get! (i + 2)]⟩ := ext_get s i 3 h
theorem ext4 {s : ByteArray} {i : Nat} (h : i + 4 ≤ s.size) : s.extract i (i + 4) = ⟨#[s.get! i, s.get! (i + 1), s.get! (i + 2), s.get! (i + 3)]⟩ := ext_get s i 4 h

/-- What the decoder of the model says, as limnerref01.Next does. -/
def dec3 (s : ByteArray) (i : Nat) : Int × Nat × Bool := (((Utf8.decode s i).1 : Int), (Utf8.decode s i).2, !((Utf8.decode s i).1 == 65533 && (Utf8.decode s i).2 == 1))

theorem len_ne {l m : List UInt8} (h : l.length ≠ m.length) : ¬ (⟨l.toArray⟩ : ByteArray) = ⟨m.toArray⟩ := by
  intro e; injection e with e; have := congrArg Array.toList e; simp at this; exact h (by rw [this])
theorem list_eq {l m : List UInt8} : (⟨l.toArray⟩ : ByteArray) = ⟨m.toArray⟩ ↔ l = m := by
  constructor
  · intro e; injection e with e; simpa using congrArg Array.toList e
  · rintro rfl; rfl

/-- The bytes of a rune, by how many there are. -/
theorem put_cases (r : Int) : (putS r = ⟨[].toArray⟩ ∧ (r < 0 ∨ 1114111 < r ∨ (55296 ≤ r ∧ r ≤ 57343))) ∨ (putS r = ⟨[UInt8.ofNat r.toNat].toArray⟩ ∧ 0 ≤ r ∧ r < 128) ∨
    (putS r = ⟨[UInt8.ofNat (192 + r / 64).toNat, UInt8.ofNat (128 + r % 64).toNat].toArray⟩ ∧ 128 ≤ r ∧ r < 2048) ∨
    (putS r = ⟨[UInt8.ofNat (224 + r / 4096).toNat, UInt8.ofNat (128 + r / 64 % 64).toNat, UInt8.ofNat (128 + r % 64).toNat].toArray⟩ ∧ 2048 ≤ r ∧ r < 65536 ∧ (r < 55296 ∨ 57344 ≤ r)) ∨
    (putS r = ⟨[UInt8.ofNat (240 + r / 262144).toNat, UInt8.ofNat (128 + r / 4096 % 64).toNat, UInt8.ofNat (128 + r / 64 % 64).toNat, UInt8.ofNat (128 + r % 64).toNat].toArray⟩ ∧ 65536 ≤ r ∧ r ≤ 1114111) := by
  by_cases h0 : r < 0 ∨ 1114111 < r ∨ (55296 ≤ r ∧ r ≤ 57343)
  · exact .inl ⟨putS_bad h0, h0⟩
  by_cases h1 : r < 128
  · exact .inr (.inl ⟨(putS_1 (by omega) h1).symm, by omega, h1⟩)
  by_cases h2 : r < 2048
  · exact .inr (.inr (.inl ⟨(putS_2 (by omega) h2).symm, by omega, h2⟩))
  by_cases h3 : r < 65536
  · exact .inr (.inr (.inr (.inl ⟨(putS_3 (by omega) h3 (by omega)).symm, by omega, h3, by omega⟩)))
  · exact .inr (.inr (.inr (.inr ⟨(putS_4 (by omega) (by omega)).symm, by omega, by omega⟩)))

theorem put_two {r : Int} {x y : UInt8} : putS r = ⟨[x, y].toArray⟩ ↔ 128 ≤ r ∧ r < 2048 ∧ 192 + r / 64 = x.toNat ∧ 128 + r % 64 = y.toNat := by
  rcases put_cases r with ⟨h, b⟩ | ⟨h, b⟩ | ⟨h, b⟩ | ⟨h, b⟩ | ⟨h, b⟩ <;> rw [h, list_eq]
  · simp; omega
  · simp; omega
  · simp only [List.cons.injEq, and_true]
    rw [ofNat_eq (by omega), ofNat_eq (by omega)]; omega
  · simp; omega
  · simp; omega
theorem put_three {r : Int} {x y z : UInt8} : putS r = ⟨[x, y, z].toArray⟩ ↔ 2048 ≤ r ∧ r < 65536 ∧ (r < 55296 ∨ 57344 ≤ r) ∧ 224 + r / 4096 = x.toNat ∧ 128 + r / 64 % 64 = y.toNat ∧ 128 + r % 64 = z.toNat := by
  rcases put_cases r with ⟨h, b⟩ | ⟨h, b⟩ | ⟨h, b⟩ | ⟨h, b⟩ | ⟨h, b⟩ <;> rw [h, list_eq]
  · simp; omega
  · simp; omega
  · simp; omega
  · simp only [List.cons.injEq, and_true]
    rw [ofNat_eq (by omega), ofNat_eq (by omega), ofNat_eq (by omega)]; omega
  · simp; omega
theorem put_four {r : Int} {x y z u : UInt8} : putS r = ⟨[x, y, z, u].toArray⟩ ↔ 65536 ≤ r ∧ r ≤ 1114111 ∧ 240 + r / 262144 = x.toNat ∧ 128 + r / 4096 % 64 = y.toNat ∧ 128 + r / 64 % 64 = z.toNat ∧ 128 + r % 64 = u.toNat := by
  rcases put_cases r with ⟨h, b⟩ | ⟨h, b⟩ | ⟨h, b⟩ | ⟨h, b⟩ | ⟨h, b⟩ <;> rw [h, list_eq]
  · simp; omega
  · simp; omega
  · simp; omega
  · simp; omega
  · simp only [List.cons.injEq, and_true]
    rw [ofNat_eq (by omega), ofNat_eq (by omega), ofNat_eq (by omega), ofNat_eq (by omega)]; omega

theorem dec_err {s : ByteArray} {i : Nat} (h : Utf8.decode s i = (65533, 1)) : dec3 s i = (65533, 1, false) := by rw [dec3, h]; rfl
theorem dec_ok {s : ByteArray} {i c n : Nat} (h : Utf8.decode s i = (c, n)) (hn : c ≠ 65533 ∨ n ≠ 1) : dec3 s i = ((c : Int), n, true) := by
  rw [dec3, h]
  rcases hn with hn | hn <;> simp [hn]

theorem nxt_dec (s : ByteArray) (i : Nat) (hi : i < s.size) : nxt s i = dec3 s i := by
  have lb0 := (s.get! i).toNat_lt
  have lb1 := (s.get! (i + 1)).toNat_lt
  have lb2 := (s.get! (i + 2)).toNat_lt
  have lb3 := (s.get! (i + 3)).toNat_lt
  have hg : s.get! i = s[i] := get_of hi
  by_cases c1 : (s.get! i).toNat < 128
  · have hn : 1 = begN (s[i].toNat : Int) := by rw [← hg, begN, if_pos (by omega)]
    have ha : acc s i 1 = ((s.get! i).toNat : Int) := by rw [acc_one hi, ← hg, begR, if_pos (by omega)]
    have hd : Utf8.decode s i = ((s.get! i).toNat, 1) := by
      unfold Utf8.decode; simp only [Nat.add_zero]; rw [if_pos c1]
    rw [nxt_good hi hn (by omega) (by omega) (by rw [ha, ext1 (by omega), ← putS_1 (by omega) (by omega), sn1]; simp), ha, dec_ok hd (by omega)]
  by_cases c2 : (s.get! i).toNat < 192
  · have hn : 0 = begN (s[i].toNat : Int) := by rw [← hg, begN, if_neg (by omega), if_pos (by omega)]
    have hd : Utf8.decode s i = (65533, 1) := by
      unfold Utf8.decode; simp only [Nat.add_zero]
      rw [if_neg c1, if_neg (by simp; omega), if_neg (by simp; omega), if_neg (by simp; omega)]; rfl
    rw [nxt_bad hi hn (.inl rfl), dec_err hd]
  by_cases c3 : (s.get! i).toNat < 224
  · have hn : 2 = begN (s[i].toNat : Int) := by rw [← hg, begN, if_neg (by omega), if_neg (by omega), if_pos (by omega)]
    by_cases f : i + 2 ≤ s.size
    · have ha : acc s i 2 = ((s.get! i).toNat - 192 : Int) * 64 + ((s.get! (i + 1)).toNat : Int) % 64 := by
        rw [acc_step (k := 1) (by omega) (by omega), acc_one hi, ← hg, begR, if_neg (by omega), if_neg (by omega), if_pos (by omega), get_of (show i + 1 < s.size by omega)]
      have hq := ext2 f
      have hp := put_two (r := acc s i 2) (x := s.get! i) (y := s.get! (i + 1))
      by_cases g : 128 ≤ acc s i 2 ∧ (s.get! (i + 1)).toNat / 64 = 2
      · have hd : Utf8.decode s i = ((acc s i 2).toNat, 2) := by
          unfold Utf8.decode; simp only [Nat.add_zero]
          rw [if_neg c1, if_pos (by simp; omega), if_pos (by omega)]
          exact congrArg (·, 2) (by omega)
        rw [nxt_good hi hn (by omega) f (by rw [hq]; exact hp.2 (by omega)), dec_ok hd (by omega)]
        exact congrArg (·, 2, true) (by omega)
      · have hd : Utf8.decode s i = (65533, 1) := by
          unfold Utf8.decode; simp only [Nat.add_zero]
          rw [if_neg c1]
          by_cases k : (s.get! (i + 1)).toNat / 64 = 2
          · rw [if_pos (by simp; omega), if_neg (by omega)]; rfl
          · rw [if_neg (by simp; omega), if_neg (by simp; omega), if_neg (by simp; omega)]; rfl
        rw [nxt_bad hi hn (.inr (.inr (fun e => by rw [hq] at e; have := hp.1 e; omega))), dec_err hd]
    · have hd : Utf8.decode s i = (65533, 1) := by
        unfold Utf8.decode; simp only [Nat.add_zero]
        rw [if_neg c1, if_neg (by simp; omega), if_neg (by simp; omega), if_neg (by simp; omega)]; rfl
      rw [nxt_bad hi hn (.inr (.inl f)), dec_err hd]
  by_cases c4 : (s.get! i).toNat < 240
  · have hn : 3 = begN (s[i].toNat : Int) := by rw [← hg, begN, if_neg (by omega), if_neg (by omega), if_neg (by omega), if_pos (by omega)]
    by_cases f : i + 3 ≤ s.size
    · have ha : acc s i 3 = (((s.get! i).toNat - 224 : Int) * 64 + ((s.get! (i + 1)).toNat : Int) % 64) * 64 + ((s.get! (i + 2)).toNat : Int) % 64 := by
        rw [acc_step (k := 2) (by omega) (by omega), acc_step (k := 1) (by omega) (by omega), acc_one hi, ← hg, begR, if_neg (by omega), if_neg (by omega), if_neg (by omega), if_pos (by omega), get_of (show i + 1 < s.size by omega), get_of (show i + 2 < s.size by omega)]
      have hq := ext3 f
      have hp := put_three (r := acc s i 3) (x := s.get! i) (y := s.get! (i + 1)) (z := s.get! (i + 2))
      by_cases g : (2048 ≤ acc s i 3 ∧ (acc s i 3 < 55296 ∨ 57344 ≤ acc s i 3)) ∧ (s.get! (i + 1)).toNat / 64 = 2 ∧ (s.get! (i + 2)).toNat / 64 = 2
      · have hd : Utf8.decode s i = ((acc s i 3).toNat, 3) := by
          unfold Utf8.decode; simp only [Nat.add_zero]
          rw [if_neg c1, if_neg (by simp; omega), if_pos (by simp; omega)]
          have e : (s.get! i).toNat % 16 * 4096 + (s.get! (i + 1)).toNat % 64 * 64 + (s.get! (i + 2)).toNat % 64 = (acc s i 3).toNat := by omega
          simp only [e]; rw [if_pos (by rw [Bool.and_eq_true, valid_of (by omega)]; simp; omega)]
        rw [nxt_good hi hn (by omega) f (by rw [hq]; exact hp.2 (by omega)), dec_ok hd (by omega)]
        exact congrArg (·, 3, true) (by omega)
      · have hd : Utf8.decode s i = (65533, 1) := by
          unfold Utf8.decode; simp only [Nat.add_zero]
          rw [if_neg c1, if_neg (by simp; omega)]
          by_cases k : (s.get! (i + 1)).toNat / 64 = 2 ∧ (s.get! (i + 2)).toNat / 64 = 2
          · have e : (s.get! i).toNat % 16 * 4096 + (s.get! (i + 1)).toNat % 64 * 64 + (s.get! (i + 2)).toNat % 64 = (acc s i 3).toNat := by omega
            rw [if_pos (by simp; omega)]; simp only [e]; rw [if_neg (by simp [Utf8.valid]; omega)]; rfl
          · rw [if_neg (by simp; omega), if_neg (by simp; omega)]; rfl
        rw [nxt_bad hi hn (.inr (.inr (fun e => by rw [hq] at e; have := hp.1 e; omega))), dec_err hd]
    · have hd : Utf8.decode s i = (65533, 1) := by
        unfold Utf8.decode; simp only [Nat.add_zero]
        rw [if_neg c1, if_neg (by simp; omega), if_neg (by simp; omega), if_neg (by simp; omega)]; rfl
      rw [nxt_bad hi hn (.inr (.inl f)), dec_err hd]
  by_cases c5 : (s.get! i).toNat < 248
  · have hn : 4 = begN (s[i].toNat : Int) := by rw [← hg, begN, if_neg (by omega), if_neg (by omega), if_neg (by omega), if_neg (by omega), if_pos (by omega)]
    by_cases f : i + 4 ≤ s.size
    · have ha : acc s i 4 = ((((s.get! i).toNat - 240 : Int) * 64 + ((s.get! (i + 1)).toNat : Int) % 64) * 64 + ((s.get! (i + 2)).toNat : Int) % 64) * 64 + ((s.get! (i + 3)).toNat : Int) % 64 := by
        rw [acc_step (k := 3) (by omega) (by omega), acc_step (k := 2) (by omega) (by omega), acc_step (k := 1) (by omega) (by omega), acc_one hi, ← hg, begR, if_neg (by omega), if_neg (by omega), if_neg (by omega), if_neg (by omega), if_pos (by omega), get_of (show i + 1 < s.size by omega), get_of (show i + 2 < s.size by omega), get_of (show i + 3 < s.size by omega)]
      have hq := ext4 f
      have hp := put_four (r := acc s i 4) (x := s.get! i) (y := s.get! (i + 1)) (z := s.get! (i + 2)) (u := s.get! (i + 3))
      by_cases g : (65536 ≤ acc s i 4 ∧ acc s i 4 ≤ 1114111) ∧ (s.get! (i + 1)).toNat / 64 = 2 ∧ (s.get! (i + 2)).toNat / 64 = 2 ∧ (s.get! (i + 3)).toNat / 64 = 2
      · have hd : Utf8.decode s i = ((acc s i 4).toNat, 4) := by
          unfold Utf8.decode; simp only [Nat.add_zero]
          rw [if_neg c1, if_neg (by simp; omega), if_neg (by simp; omega), if_pos (by simp; omega)]
          have e : (s.get! i).toNat % 8 * 262144 + (s.get! (i + 1)).toNat % 64 * 4096 + (s.get! (i + 2)).toNat % 64 * 64 + (s.get! (i + 3)).toNat % 64 = (acc s i 4).toNat := by omega
          simp only [e]; rw [if_pos (by rw [Bool.and_eq_true, valid_of (by omega)]; simp; omega)]
        rw [nxt_good hi hn (by omega) f (by rw [hq]; exact hp.2 (by omega)), dec_ok hd (by omega)]
        exact congrArg (·, 4, true) (by omega)
      · have hd : Utf8.decode s i = (65533, 1) := by
          unfold Utf8.decode; simp only [Nat.add_zero]
          rw [if_neg c1, if_neg (by simp; omega), if_neg (by simp; omega)]
          by_cases k : (s.get! (i + 1)).toNat / 64 = 2 ∧ (s.get! (i + 2)).toNat / 64 = 2 ∧ (s.get! (i + 3)).toNat / 64 = 2
          · have e : (s.get! i).toNat % 8 * 262144 + (s.get! (i + 1)).toNat % 64 * 4096 + (s.get! (i + 2)).toNat % 64 * 64 + (s.get! (i + 3)).toNat % 64 = (acc s i 4).toNat := by omega
            rw [if_pos (by simp; omega)]; simp only [e]; rw [if_neg (by simp [Utf8.valid]; omega)]; rfl
          · rw [if_neg (by simp; omega)]; rfl
        rw [nxt_bad hi hn (.inr (.inr (fun e => by rw [hq] at e; have := hp.1 e; omega))), dec_err hd]
    · have hd : Utf8.decode s i = (65533, 1) := by
        unfold Utf8.decode; simp only [Nat.add_zero]
        rw [if_neg c1, if_neg (by simp; omega), if_neg (by simp; omega), if_neg (by simp; omega)]; rfl
      rw [nxt_bad hi hn (.inr (.inl f)), dec_err hd]
  · have hn : 0 = begN (s[i].toNat : Int) := by rw [← hg, begN, if_neg (by omega), if_neg (by omega), if_neg (by omega), if_neg (by omega), if_neg (by omega)]
    have hd : Utf8.decode s i = (65533, 1) := by
      unfold Utf8.decode; simp only [Nat.add_zero]
      rw [if_neg c1, if_neg (by simp; omega), if_neg (by simp; omega), if_neg (by simp; omega)]; rfl
    rw [nxt_bad hi hn (.inl rfl), dec_err hd]
end Go.Proofs.YtmpajkfbiocmiaaDoor
namespace Go.Proofs.YtmpajkfbiocmiaaDoor
open Go.RowKit

theorem hide {p : Prop} (h : p) : Hid p := h
theorem cell_first (w : World) (cs : Array Value) (t : TypeId) (i : Nat) : (w.alloc (.cells cs t)).cell? ⟨w.heap.size, 0 + i, none⟩ = cs[i]? := by
  rw [Nat.zero_add]
  exact cell_of_row _ _ i cs t (0, 0) (heap_alloc_new w _)

theorem conv_bytes (src e dst : TypeId) (hs : Tryd.prog.underlying src = some (.slice e)) (he : Tryd.prog.underlying e = some (.int .u8)) (hd : Tryd.prog.underlying dst = some .string) (w : World) (n : Nat) (xs : List Int) (hl : xs.length = n) (cs : Array Value) (hcs : cs = (xs.map (Value.int .u8)).toArray) :
    (convert src dst (.slice (some ⟨w.heap.size, 0, none⟩) n n)).run Tryd.prog (w.alloc (.cells cs e)) = .ok (.string (strOfNums xs)) (w.alloc (.cells cs e)) := by
  refine run_convert_bytes_arg (P := Tryd.prog) _ src e hs he w.heap.size 0 n n xs hl (fun i hi => ?_) dst hd
  rw [cell_first, hcs]
  simp [List.getD, List.getElem?_eq_getElem (show i < xs.length by omega)]

theorem conv_1 (w : World) (a : Int) : (convert 37 9 (.slice (some ⟨w.heap.size, 0, none⟩) 1 1)).run Tryd.prog (w.alloc (.cells #[.int .u8 a] 5)) = .ok (.string (strOfNums [a])) (w.alloc (.cells #[.int .u8 a] 5)) :=
  conv_bytes 37 5 9 Tryd.underlying37 Tryd.underlying5 Tryd.underlying9 w 1 [a] rfl _ rfl
theorem conv_2 (w : World) (a b : Int) : (convert 37 9 (.slice (some ⟨w.heap.size, 0, none⟩) 2 2)).run Tryd.prog (w.alloc (.cells #[.int .u8 a, .int .u8 b] 5)) = .ok (.string (strOfNums [a, b])) (w.alloc (.cells #[.int .u8 a, .int .u8 b] 5)) :=
  conv_bytes 37 5 9 Tryd.underlying37 Tryd.underlying5 Tryd.underlying9 w 2 [a, b] rfl _ rfl
theorem conv_3 (w : World) (a b c : Int) : (convert 37 9 (.slice (some ⟨w.heap.size, 0, none⟩) 3 3)).run Tryd.prog (w.alloc (.cells #[.int .u8 a, .int .u8 b, .int .u8 c] 5)) = .ok (.string (strOfNums [a, b, c])) (w.alloc (.cells #[.int .u8 a, .int .u8 b, .int .u8 c] 5)) :=
  conv_bytes 37 5 9 Tryd.underlying37 Tryd.underlying5 Tryd.underlying9 w 3 [a, b, c] rfl _ rfl
theorem conv_4 (w : World) (a b c d : Int) : (convert 37 9 (.slice (some ⟨w.heap.size, 0, none⟩) 4 4)).run Tryd.prog (w.alloc (.cells #[.int .u8 a, .int .u8 b, .int .u8 c, .int .u8 d] 5)) = .ok (.string (strOfNums [a, b, c, d])) (w.alloc (.cells #[.int .u8 a, .int .u8 b, .int .u8 c, .int .u8 d] 5)) :=
  conv_bytes 37 5 9 Tryd.underlying37 Tryd.underlying5 Tryd.underlying9 w 4 [a, b, c, d] rfl _ rfl

theorem ret_str {a b : ByteArray} (h : a = b) : Ending.returned (.string a) = .returned (.string b) := by rw [h]

end Go.Proofs.YtmpajkfbiocmiaaDoor
namespace Go.Proofs.YtmpajkfbiocmiaaDoor
open Go.RowKit Go.Shelf Go.Lib Go.Sort

/-- The array of runs in block g reads as l. -/
def RunsAt (g : Nat) (l : List (Int × Int)) (w : World) : Prop :=
  ∀ j, j < l.length → w.cell? ⟨g, j * 2, none⟩ = some (.int .i32 (l[j]?.getD (0, 0)).1) ∧ w.cell? ⟨g, j * 2 + 1, none⟩ = some (.int .i32 (l[j]?.getD (0, 0)).2)
theorem RunsAt.keep {g : Nat} {l : List (Int × Int)} {w W : World} (h : RunsAt g l w) (hk : ∀ o v, w.cell? ⟨g, o, none⟩ = some v → W.cell? ⟨g, o, none⟩ = some v) : RunsAt g l W := fun j hj => ⟨hk _ _ (h j hj).1, hk _ _ (h j hj).2⟩
theorem RunsAt.below {g : Nat} {l : List (Int × Int)} {w W : World} (h : RunsAt g l w) (hb : Below w.heap.size w W) : RunsAt g l W :=
  h.keep fun o v hv => (hb.cell (p := ⟨g, o, none⟩) (World.block_lt_of_cell? _ _ hv)).trans hv

theorem below_drewN {B : Nat} {a w : World} (h : Below B a w) (n : Nat) : Below B a (w.drewN n) := ⟨h.os, h.tape, h.output, h.size, h.block⟩
theorem in_ret {a b : Bool} (h : a = b) : Ending.returned (.bool a) = .returned (.bool b) := by rw [h]

set_option maxHeartbeats 2000000 in
theorem in_closure (bl br g cap : Nat) (l : List (Int × Int)) (r : Int) (i : Nat) (W : World) (hi : i < l.length)
    (hl : W.cell? ⟨bl, 0, none⟩ = some (.slice (some ⟨g, 0, none⟩) l.length cap)) (hr : W.cell? ⟨br, 0, none⟩ = some (.int .i32 r)) (hc : W.cell? ⟨g, i * 2 + 1, none⟩ = some (.int .i32 (l[i]?.getD (0, 0)).2)) :
    Calls Tryd.prog 40 (#[.int .i64 i] ++ #[.pointer (some ⟨bl, 0, none⟩), .pointer (some ⟨br, 0, none⟩)]) W fun e w' => e = .returned (.bool (decide (r ≤ (l[i]?.getD (0, 0)).2))) ∧ ∃ q, w' = W.drewN q := by
  generalize (l[i]?.getD (0, 0)).2 = y at hc ⊢
  have hiz : (i : Int) < (l.length : Int) := by omega
  go_enter Tryd.func40, Tryd.ntmps40
  go_wp2
  go_region
  all_goals go_wp2
  all_goals go_ret
  all_goals exact ⟨by first | rfl | simp, 1, rfl⟩

set_option maxRecDepth 100000 in
set_option maxHeartbeats 2000000 in
theorem in_any (g cap : Nat) (l : List (Int × Int)) (r : Int) (w : World) (h : RunsAt g l w) (hg : g < w.heap.size) (hR : Rise l) (hsz : l.length ≤ 1000) :
    Calls Tryd.prog 36 #[.slice (some ⟨g, 0, none⟩) l.length cap, .int .i32 r] w fun e w' => e = .returned (.bool (among l r)) ∧ Below w.heap.size w w' := by
  obtain ⟨W0, hW0⟩ : ∃ W0, W0 = (w.alloc (.cells #[.slice (some ⟨g, 0, none⟩) l.length cap] 82)).alloc (.cells #[.int .i32 r] 21) := ⟨_, rfl⟩
  have hsize : W0.heap.size = w.heap.size + 1 + 1 := by rw [hW0]; simp
  have ca : W0.cell? ⟨w.heap.size, 0, none⟩ = some (.slice (some ⟨g, 0, none⟩) l.length cap) := by rw [hW0]; exact Go.Proofs.cell_alloc_sl _ (Go.Proofs.cell_new_sl w _ _)
  have cx : W0.cell? ⟨w.heap.size + 1, 0, none⟩ = some (.int .i32 r) := by rw [hW0]; have := Go.Proofs.cell_new_sl (w.alloc (.cells #[.slice (some ⟨g, 0, none⟩) l.length cap] 82)) (.int .i32 r) 21; rwa [World.size_alloc] at this
  have hR0 : RunsAt g l W0 := h.keep fun o v hv => by rw [hW0]; exact Go.Proofs.cell_alloc_sl _ (Go.Proofs.cell_alloc_sl _ hv)
  have eg : ∀ args w, (callFunc 40 args).run Tryd.prog w = .ok (.enter 40 args) w := enters_of Tryd.func40 (by kernel_rfl) rfl
  have hS := Go.Proofs.Any.sort_Search Tryd.laysSearch 40 #[.pointer (some ⟨w.heap.size, 0, none⟩), .pointer (some ⟨w.heap.size + 1, 0, none⟩)] l.length (fun i => decide (r ≤ (l[i]?.getD (0, 0)).2)) W0 eg (by omega)
    (fun m os i hi => (in_closure w.heap.size (w.heap.size + 1) g cap l r i _ hi (cell_grown (by simp [hsize]; omega) ca m os) (cell_grown (by simp [hsize]) cx m os) (cell_grown (by simp [hsize]; omega) (hR0 i hi).2 m os)).mono
      fun _ _ ⟨he, q, hq⟩ => ⟨he, q, #[], by rw [hq, grow_empty]⟩) (place_mono hR r)
  change Calls Tryd.prog 39 _ _ _ at hS
  have hS2 : Calls Tryd.prog 39 #[.int .i64 l.length, .func (.func 40) #[] #[.pointer (some ⟨w.heap.size, 0, none⟩), .pointer (some ⟨w.heap.size + 1, 0, none⟩)]] W0 fun e w' => e = .returned (.int .i64 (place l r)) ∧ Below W0.heap.size W0 w' :=
    hS.mono fun e w' ⟨he, q, os, hw⟩ => ⟨he, by rw [hw]; exact Go.Proofs.below_grown_sl _ _ _ _ (Nat.le_refl _)⟩
  clear hS eg
  have hB0 : Below w.heap.size w W0 := by rw [hW0]; exact ((Below.refl _ w).alloc (Nat.le_refl _) _).alloc (by simp) _
  have HA := hide (among_place l r hR)
  have HS := hide hS2
  clear hS2 h
  go_enter Tryd.func36, Tryd.ntmps36
  go_wp2_with (go_at_call 39; rw [← hW0]; refine HS.out.mono ?_; rintro e w1 ⟨rfl, hb1⟩)
  have HR1 := hide (hR0.below hb1)
  have da := (hb1.cell (p := ⟨w.heap.size, 0, none⟩) (by rw [hsize]; show w.heap.size < _; omega)).trans ca
  have dx := (hb1.cell (p := ⟨w.heap.size + 1, 0, none⟩) (by rw [hsize]; show w.heap.size + 1 < _; omega)).trans cx
  have HB := hide (hB0.trans (hb1.mono (by omega)))
  clear hW0 hb1 ca cx hR0 hB0
  have hpl := place_le l r
  by_cases hp : place l r < l.length
  · have hc := (HR1.out _ hp).1
    generalize place l r = k at *
    have hz : (k : Int) < (l.length : Int) := by omega
    go_quiet (fail)
    go_wp2
    go_ret
    exact ⟨in_ret (by rw [← HA.out]; simp [hp]), below_drewN HB.out _⟩
  · generalize place l r = k at *
    have hz : decide ((k : Int) < (l.length : Int)) = false := by simp; omega
    go_quiet (fail)
    go_wp2
    go_ret
    exact ⟨in_ret (by rw [← HA.out, decide_eq_false hp, Bool.false_and]), below_drewN HB.out _⟩

/-- The tables of package widths, in their blocks. -/
def WTabs (w : World) : Prop := RunsAt 2 hid w ∧ RunsAt 3 wid w
theorem WTabs.below {w W : World} (h : WTabs w) (hb : Below w.heap.size w W) : WTabs W := ⟨h.1.below hb, h.2.below hb⟩
theorem WTabs.lt {w : World} (h : WTabs w) : 2 < w.heap.size ∧ 3 < w.heap.size :=
  ⟨World.block_lt_of_cell? _ _ (h.1 0 (by decide)).1, World.block_lt_of_cell? _ _ (h.2 0 (by decide)).1⟩

theorem ret_shown {a b : Int} (h : a = b) : Ending.returned (.int .i32 a) = .returned (.int .i32 b) := by rw [h]
theorem ret_cells {a b : Int} (h : a = b) : Ending.returned (.int .i64 a) = .returned (.int .i64 b) := by rw [h]

set_option maxHeartbeats 400000 in
theorem wof_any (r : Int) (w : World) (hT : WTabs w) :
    Calls Tryd.prog 26 #[.int .i32 r] w fun e w' => e = .returned (.int .i64 (cells r)) ∧ Below w.heap.size w w' := by
  have HT := hide hT
  clear hT
  go_enter Tryd.func26, Tryd.ntmps26
  by_cases h0 : r < 0
  · go_wp2
    go_ret
    exact ⟨ret_cells (by rw [cells, if_pos (.inl h0)]), Below.refl _ _⟩
  by_cases h1 : 1114111 < r
  · go_wp2
    go_ret
    exact ⟨ret_cells (by rw [cells, if_pos (.inr (.inl h1))]), Below.refl _ _⟩
  cases hh : among hid r
  · cases hw : among wid r
    · have HH := hide hh
      have HW := hide hw
      clear hh hw
      go_wp2_with fail
      refine (in_any 2 8 hid r _ HT.out.1 HT.out.lt.1 rise_hid (by decide)).mono ?_
      rw [HH.out]
      rintro e w1 ⟨rfl, hb1⟩
      go_wp2_with fail
      refine (in_any 3 14 wid r _ (HT.out.below hb1).2 (HT.out.below hb1).lt.2 rise_wid (by decide)).mono ?_
      rw [HW.out]
      rintro e w2 ⟨rfl, hb2⟩
      go_wp2
      go_ret
      exact ⟨ret_cells (by rw [cells, if_neg (by rw [HH.out]; simp; omega), HW.out]; rfl), hb1.trans (hb2.mono hb1.size)⟩
    · have HH := hide hh
      have HW := hide hw
      clear hh hw
      go_wp2_with fail
      refine (in_any 2 8 hid r _ HT.out.1 HT.out.lt.1 rise_hid (by decide)).mono ?_
      rw [HH.out]
      rintro e w1 ⟨rfl, hb1⟩
      go_wp2_with fail
      refine (in_any 3 14 wid r _ (HT.out.below hb1).2 (HT.out.below hb1).lt.2 rise_wid (by decide)).mono ?_
      rw [HW.out]
      rintro e w2 ⟨rfl, hb2⟩
      go_wp2
      go_ret
      exact ⟨ret_cells (by rw [cells, if_neg (by rw [HH.out]; simp; omega), HW.out]; rfl), hb1.trans (hb2.mono hb1.size)⟩
  · have HH := hide hh
    clear hh
    go_wp2_with fail
    refine (in_any 2 8 hid r _ HT.out.1 HT.out.lt.1 rise_hid (by decide)).mono ?_
    rw [HH.out]
    rintro e w1 ⟨rfl, hb1⟩
    go_wp2
    go_ret
    exact ⟨ret_cells (by rw [cells, if_pos (.inr (.inr HH.out))]), hb1⟩
end Go.Proofs.YtmpajkfbiocmiaaDoor
namespace Go.Proofs.YtmpajkfbiocmiaaDoor
open Go.RowKit

/-- The block's cells are these, of type t, and may be written. -/
def Blk (W : World) (b : Nat) (t : TypeId) (cs : List Value) : Prop := W.heap[b]? = some (.cells cs.toArray t (0, 0))
theorem Blk.lt {W : World} {b : Nat} {t : TypeId} {cs : List Value} (h : Blk W b t cs) : b < W.heap.size := (Array.getElem?_eq_some_iff.1 h).1
theorem Blk.cell {W : World} {b : Nat} {t : TypeId} {cs : List Value} (h : Blk W b t cs) {i : Nat} {u : Value} (hi : cs[i]? = some u) : W.cell? ⟨b, i, none⟩ = some u := by
  simp [World.cell?, show W.heap[b]? = _ from h, hi]
theorem Blk.frozen {W : World} {b : Nat} {t : TypeId} {cs : List Value} (h : Blk W b t cs) (i : Nat) : W.frozen? ⟨b, i, none⟩ = false := by
  simp [World.frozen?, show W.heap[b]? = _ from h]
theorem Blk.new (W : World) (t : TypeId) (cs : List Value) : Blk (W.alloc (.cells cs.toArray t)) W.heap.size t cs := World.alloc_heap_new W _
theorem Blk.below {W W' : World} {b : Nat} {t : TypeId} {cs : List Value} (h : Blk W b t cs) (hb : Below W.heap.size W W') : Blk W' b t cs := (hb.block b h.lt).trans h
theorem Blk.under {B : Nat} {W W' : World} {b : Nat} {t : TypeId} {cs : List Value} (h : Blk W b t cs) (hb : Below B W W') (hl : b < B) : Blk W' b t cs := (hb.block b hl).trans h
theorem Blk.alloc {W : World} {b : Nat} {t : TypeId} {cs : List Value} (h : Blk W b t cs) (o : Obj) : Blk (W.alloc o) b t cs := h.below ((Below.refl _ _).alloc (Nat.le_refl _) _)
theorem Blk.drewN {W : World} {b : Nat} {t : TypeId} {cs : List Value} (h : Blk W b t cs) (n : Nat) : Blk (W.drewN n) b t cs := h
theorem Blk.drew {W : World} {b : Nat} {t : TypeId} {cs : List Value} (h : Blk W b t cs) : Blk W.drew b t cs := h
theorem Blk.set {W : World} {b : Nat} {t : TypeId} {cs : List Value} (h : Blk W b t cs) (i : Nat) (v : Value) : Blk (W.setCell ⟨b, i, none⟩ v) b t (cs.set i v) := by
  obtain ⟨hlt, hk⟩ := Array.getElem?_eq_some_iff.1 h
  show (W.heap.modify b _)[b]? = _
  rw [Array.getElem?_eq_getElem (by rw [Array.size_modify]; exact hlt), Array.getElem_modify_self, hk]
  simp
theorem Blk.far {W : World} {b : Nat} {t : TypeId} {cs : List Value} (h : Blk W b t cs) {p : Addr} (hp : p.block ≠ b) (v : Value) : Blk (W.setCell p v) b t cs :=
  (Below.heap_setCell _ _ _ _ (fun e => hp e.symm)).trans h
end Go.Proofs.YtmpajkfbiocmiaaDoor
namespace Go.Proofs.YtmpajkfbiocmiaaDoor
open Go.RowKit

def clCells (c : Cl) : List Value := [.int .i32 c.r, .int .i64 c.w, .int .i64 c.fg, .bool c.bo, .bool c.un, .bool c.iv]
def clV (c : Cl) : Value := .agg #[.int .i32 c.r, .int .i64 c.w, .int .i64 c.fg, .bool c.bo, .bool c.un, .bool c.iv]
def stV (c : Cl) : Value := .agg #[.int .i64 c.fg, .bool c.bo, .bool c.un, .bool c.iv]
def flatC (L : List Cl) : List Value := L.flatMap clCells
theorem flatC_len (L : List Cl) : (flatC L).length = L.length * 6 := by
  unfold flatC
  induction L with
  | nil => rfl
  | cons a l ih => simp only [List.flatMap_cons, List.length_append, clCells, List.length_cons, List.length_nil] at ih ⊢; omega
theorem flatC_app (L M : List Cl) : flatC (L ++ M) = flatC L ++ flatC M := by simp [flatC]
theorem flatC_at (L : List Cl) (j : Nat) (c : Cl) (h : L[j]? = some c) (i : Nat) (hi : i < 6) : (flatC L)[j * 6 + i]? = (clCells c)[i]? := by
  induction L generalizing j with
  | nil => simp at h
  | cons a l ih =>
    unfold flatC at ih ⊢
    rw [List.flatMap_cons]
    cases j with
    | zero =>
      obtain rfl : a = c := by simpa using h
      rw [List.getElem?_append_left (by simp [clCells]; omega), Nat.zero_mul, Nat.zero_add]
    | succ j =>
      rw [List.getElem?_append_right (by simp [clCells]; omega), show (j + 1) * 6 + i - (clCells a).length = j * 6 + i by simp [clCells]; omega]
      exact ih j (by simpa using h)
theorem flatC_set (L : List Cl) (j : Nat) (c : Cl) (h : j < L.length) : ((((((flatC L).set (j * 6) (.int .i32 c.r)).set (j * 6 + 1) (.int .i64 c.w)).set (j * 6 + 2) (.int .i64 c.fg)).set (j * 6 + 3) (.bool c.bo)).set (j * 6 + 4) (.bool c.un)).set (j * 6 + 5) (.bool c.iv) = flatC (L.set j c) := by
  induction L generalizing j with
  | nil => simp at h
  | cons a l ih =>
    cases j with
    | zero =>
      simp only [flatC, List.flatMap_cons, clCells, List.set_cons_zero]
      rfl
    | succ j =>
      have ih := ih j (by simpa using h)
      simp only [flatC, List.flatMap_cons, List.set_cons_succ] at ih ⊢
      rw [← ih]
      have e : ∀ (x : List Value) (q : Nat) (u : Value), (clCells a ++ x).set ((j + 1) * 6 + q) u = clCells a ++ x.set (j * 6 + q) u := by
        intro x q u
        rw [List.set_append_right _ _ (by simp [clCells]; omega), show (j + 1) * 6 + q - (clCells a).length = j * 6 + q by simp [clCells]; omega]
      have e0 := e (l.flatMap clCells) 0 (.int .i32 c.r)
      simp only [Nat.add_zero] at e0
      rw [e0, e, e, e, e, e]
/-- A slice that reads as these cells. -/
def ClsAt (W : World) (A : Option Addr) (L : List Cl) : Prop := RowOf W 6 clCells A L
theorem ClsAt.at {W : World} {A : Option Addr} {L : List Cl} (h : ClsAt W A L) {j : Nat} {c : Cl} (hj : L[j]? = some c) :
    ∃ b o, A = some ⟨b, o, none⟩ ∧ b < W.heap.size ∧ W.cell? ⟨b, o + j * 6, none⟩ = some (.int .i32 c.r) ∧ W.cell? ⟨b, o + j * 6 + 1, none⟩ = some (.int .i64 c.w) ∧ W.cell? ⟨b, o + j * 6 + 2, none⟩ = some (.int .i64 c.fg) ∧ W.cell? ⟨b, o + j * 6 + 3, none⟩ = some (.bool c.bo) ∧ W.cell? ⟨b, o + j * 6 + 4, none⟩ = some (.bool c.un) ∧ W.cell? ⟨b, o + j * 6 + 5, none⟩ = some (.bool c.iv) := by
  obtain ⟨b, o, e, hlt, hc⟩ := h j c hj
  exact ⟨b, o, e, hlt, hc 0 _ rfl, hc 1 _ rfl, hc 2 _ rfl, hc 3 _ rfl, hc 4 _ rfl, hc 5 _ rfl⟩
/-- A part of such a slice. -/
theorem ClsAt.sub {W : World} {b o : Nat} {L : List Cl} (h : ClsAt W (some ⟨b, o, none⟩) L) (k n : Nat) : ClsAt W (some ⟨b, o + k * 6, none⟩) ((L.drop k).take n) := by
  intro j c hj
  have hj2 : L[k + j]? = some c := by
    by_cases hn : j < n
    · rw [List.getElem?_take_of_lt hn, List.getElem?_drop] at hj; exact hj
    · rw [List.getElem?_take_eq_none (by omega)] at hj; cases hj
  obtain ⟨b', o', e, hlt, hc⟩ := h _ c hj2
  injection e with e; injection e with e1 e2
  subst e1 e2
  refine ⟨b, o + k * 6, rfl, hlt, fun i u hu => ?_⟩
  have := hc i u hu
  rw [show o + k * 6 + j * 6 + i = o + (k + j) * 6 + i by omega]
  exact this
/-- A slice of cells that the call made. -/
def OwnC (W : World) (B : Nat) (v : Value) (L : List Cl) : Prop := W.ownsRow B 39 6 v L.length (flatC L)
theorem OwnC.below {w W : World} {B : Nat} {v : Value} {L : List Cl} (h : OwnC w B v L) (hb : Below w.heap.size w W) : OwnC W B v L := by
  refine ⟨h.1, ?_⟩
  rcases h.2 with h0 | ⟨g, cap, cur, rfl, hg, hh, q⟩
  · exact .inl h0
  · exact .inr ⟨g, cap, cur, rfl, hg, (hb.block g (Array.getElem?_eq_some_iff.1 hh).1).trans hh, q⟩
theorem OwnC.form {W : World} {B : Nat} {v : Value} {L : List Cl} (h : OwnC W B v L) : ∃ A c, v = .slice A L.length c ∧ L.length ≤ c := by
  rcases h.2 with ⟨rfl, h0⟩ | ⟨g, cap, cur, rfl, hg, hh, q, _⟩
  · exact ⟨_, _, by rw [h0], by omega⟩
  · exact ⟨_, _, rfl, q⟩
theorem OwnC.formN {W : World} {B : Nat} {v : Value} {L : List Cl} (h : OwnC W B v L) (h0 : 0 < L.length) : ∃ g c, v = .slice (some ⟨g, 0, none⟩) L.length c ∧ L.length ≤ c ∧ B ≤ g := by
  rcases h.2 with ⟨rfl, h1⟩ | ⟨g, cap, cur, rfl, hg, hh, q, _⟩
  · omega
  · exact ⟨g, cap, rfl, q, hg⟩
theorem OwnC.cls {W : World} {B : Nat} {A : Option Addr} {n c : Nat} {L : List Cl} (h : OwnC W B (.slice A n c) L) : ClsAt W A L := by
  intro j x hj
  have hlt := (List.getElem?_eq_some_iff.1 hj).1
  have h2 := h
  rcases h.2 with ⟨e, h0⟩ | ⟨g, cap, cur, e, hg, hh, q⟩
  · omega
  · injection e with e1 e2 e3
    subst e1 e2 e3
    refine ⟨g, 0, rfl, (Array.getElem?_eq_some_iff.1 hh).1, fun i u hu => ?_⟩
    have hi : i < 6 := by have := (List.getElem?_eq_some_iff.1 hu).1; simpa [clCells] using this
    have := World.ownsRow.cellAt h2 (j * 6 + i) (by omega)
    rw [Nat.zero_add, this, flatC_at L j x hj i hi, hu]
theorem OwnC.set {W : World} {B g c : Nat} {L : List Cl} (h : OwnC W B (.slice (some ⟨g, 0, none⟩) L.length c) L) {j : Nat} (hj : j < L.length) (x : Cl) :
    OwnC ((((((W.setCell ⟨g, j * 6, none⟩ (.int .i32 x.r)).setCell ⟨g, j * 6 + 1, none⟩ (.int .i64 x.w)).setCell ⟨g, j * 6 + 2, none⟩ (.int .i64 x.fg)).setCell ⟨g, j * 6 + 3, none⟩ (.bool x.bo)).setCell ⟨g, j * 6 + 4, none⟩ (.bool x.un)).setCell ⟨g, j * 6 + 5, none⟩ (.bool x.iv)) B (.slice (some ⟨g, 0, none⟩) L.length c) (L.set j x) := by
  have h6 := ((((((h.stored (j * 6) (.int .i32 x.r)).1.stored (j * 6 + 1) (.int .i64 x.w)).1.stored (j * 6 + 2) (.int .i64 x.fg)).1.stored (j * 6 + 3) (.bool x.bo)).1.stored (j * 6 + 4) (.bool x.un)).1.stored (j * 6 + 5) (.bool x.iv)).1
  rw [flatC_set L j x hj] at h6
  unfold OwnC
  rw [List.length_set]
  exact h6
/-- Only a block of the call's own has changed, and new ones. -/
theorem grown6 (W : World) (g a b c d e f : Nat) (x y z u v t : Value) : W.grownBy ((((((W.setCell ⟨g, a, none⟩ x).setCell ⟨g, b, none⟩ y).setCell ⟨g, c, none⟩ z).setCell ⟨g, d, none⟩ u).setCell ⟨g, e, none⟩ v).setCell ⟨g, f, none⟩ t) (some g) := by
  have S : ∀ (w : World) (o : Nat) (q : Value), w.grownBy (w.setCell ⟨g, o, none⟩ q) (some g) := by
    intro w o q
    have h2 : (w.setCell ⟨g, o, none⟩ q).heap.size = w.heap.size := by unfold World.setCell; simp
    exact ⟨rfl, rfl, rfl, by omega, fun k _ hne => Below.heap_setCell w _ _ k (fun e => hne (by rw [e]))⟩
  exact ((((((S _ _ _).trans (S _ _ _)).trans (S _ _ _)).trans (S _ _ _)).trans (S _ _ _)).trans (S _ _ _))
/-- A frame, as a value. -/
def frV (f : Fr) (A : Option Addr) (n cap : Nat) : Value := .agg #[.int .i64 f.rows, .int .i64 f.cols, .slice A n cap, .int .i64 f.row, .int .i64 f.col]
def FrAt (W : World) (v : Value) (f : Fr) : Prop := ∃ A cap, v = frV f A f.cs.length cap ∧ f.cs.length ≤ cap ∧ cap ≤ maxLen ∧ ClsAt W A f.cs
theorem FrAt.below {w W : World} {v : Value} {f : Fr} (h : FrAt w v f) (hb : Below w.heap.size w W) : FrAt W v f := by
  obtain ⟨A, cap, e, h1, h2, h3⟩ := h
  exact ⟨A, cap, e, h1, h2, h3.below hb⟩
theorem FrAt.nil (W : World) : FrAt W (frV noF none 0 0) noF := ⟨none, 0, rfl, by simp [noF], by unfold maxLen; omega, fun j x h => by simp [noF] at h⟩
/-- The blank, in its block. -/
def BTab (W : World) : Prop := W.cell? ⟨0, 0, none⟩ = some (.int .i32 32) ∧ W.cell? ⟨0, 1, none⟩ = some (.int .i64 1) ∧ W.cell? ⟨0, 2, none⟩ = some (.int .i64 0) ∧ W.cell? ⟨0, 3, none⟩ = some (.bool false) ∧ W.cell? ⟨0, 4, none⟩ = some (.bool false) ∧ W.cell? ⟨0, 5, none⟩ = some (.bool false)
theorem kcG {W W' : World} {b o : Nat} {u : Value} (hb : Below W.heap.size W W') (h : W.cell? ⟨b, o, none⟩ = some u) : W'.cell? ⟨b, o, none⟩ = some u := (hb.cell (p := ⟨b, o, none⟩) (World.block_lt_of_cell? _ _ h)).trans h
theorem BTab.below {w W : World} (h : BTab w) (hb : Below w.heap.size w W) : BTab W := ⟨kcG hb h.1, kcG hb h.2.1, kcG hb h.2.2.1, kcG hb h.2.2.2.1, kcG hb h.2.2.2.2.1, kcG hb h.2.2.2.2.2⟩
end Go.Proofs.YtmpajkfbiocmiaaDoor
namespace Go.Proofs.YtmpajkfbiocmiaaDoor
open Go.RowKit

theorem ret_bG {a b : Bool} (h : a = b) : Ending.returned (.bool a) = .returned (.bool b) := by rw [h]
theorem may_t {a b : Int} : mayB a b = true ↔ 2 ≤ a ∧ a ≤ 100 ∧ 8 ≤ b ∧ b ≤ 200 := by simp [mayB]
set_option maxHeartbeats 1000000 in
theorem may_any (a b : Int) (w : World) : Calls Tryd.prog 12 #[.int .i64 a, .int .i64 b] w fun e w' => e = .returned (.bool (mayB a b)) ∧ w = w' := by
  go_enter Tryd.func12, Tryd.ntmps12
  go_wp2
  all_goals go_ret
  all_goals exact ⟨ret_bG (by rw [Bool.eq_iff_iff, may_t]; simp [Bool.and_eq_true] <;> omega), rfl⟩
set_option maxHeartbeats 1000000 in
theorem style_any (c : Cl) (w : World) : Calls Tryd.prog 27 #[.agg #[.int .i64 c.fg, .bool c.bo, .bool c.un, .bool c.iv]] w fun e w' => e = .returned (.bool (styC c)) ∧ Below w.heap.size w w' := by
  have hs : styC c = (decide (0 ≤ c.fg) && decide (c.fg ≤ 8)) := by unfold styC; rw [Bool.eq_iff_iff]; simp
  have HS := hide hs
  clear hs
  go_enter Tryd.func27, Tryd.ntmps27
  go_wp2
  all_goals go_ret
  all_goals exact ⟨ret_bG (by rw [HS.out]; simp <;> omega), (Below.refl _ _).alloc (Nat.le_refl _) _⟩
theorem may_is (a b : Int) (x : Bool) (hx : mayB a b = x) (w : World) : Calls Tryd.prog 12 #[.int .i64 a, .int .i64 b] w fun e w' => e = .returned (.bool x) ∧ w = w' := by
  subst hx; exact may_any a b w
end Go.Proofs.YtmpajkfbiocmiaaDoor
namespace Go.Proofs.YtmpajkfbiocmiaaDoor

theorem row_facts {l : List Cl} (h : rowB l = true) : ∀ (j : Nat) (c : Cl), l[j]? = some c → ((0 : Int) ≤ c.w ∧ c.w ≤ 2) ∧ (c.w = 2 → ∃ d, l[j + 1]? = some d ∧ d.w = 0) ∧ (c.w = 0 → 1 ≤ j ∧ ∃ d, l[j - 1]? = some d ∧ d.w = 2) := by
  intro j c hj
  rw [row_ok _ none (fun d h => by cases h), okFrom_iff] at h
  have h := h j c hj
  unfold cellB at h
  simp only [Bool.and_eq_true, Bool.or_eq_true, decide_eq_true_eq] at h
  obtain ⟨⟨⟨⟨-, h1⟩, -⟩, h2⟩, h3⟩ := h
  refine ⟨h1, fun h9 => ?_, fun h9 => ?_⟩
  · rcases h2 with h2 | h2
    · exact absurd h9 h2
    · cases hd : l[j + 1]? with
      | none => rw [hd] at h2; cases h2
      | some d => rw [hd] at h2; exact ⟨d, rfl, by simpa using h2⟩
  · rcases h3 with h3 | h3
    · exact absurd h9 h3
    · by_cases h0 : j = 0
      · rw [if_pos h0] at h3; cases h3
      · rw [if_neg h0] at h3
        cases hd : l[j - 1]? with
        | none => rw [hd] at h3; cases h3
        | some d =>
          rw [hd] at h3
          simp only [Option.any_some, Bool.and_eq_true, decide_eq_true_eq] at h3
          exact ⟨by omega, d, rfl, h3.1.1⟩

/-- A blank in the place of a cell, and of the other half of what stood there. -/
def wipeL (L : List Cl) (i : Nat) : List Cl :=
  (if (L.getD i blankC).w = 2 then L.set (i + 1) blankC else if (L.getD i blankC).w = 0 then L.set (i - 1) blankC else L).set i blankC
/-- The program's way. -/
def putL (L : List Cl) (i n : Nat) (c : Cl) : List Cl :=
  if n = 2 then ((wipeL (wipeL L i) (i + 1)).set (i + 1) (halfC c)).set i c else (wipeL L i).set i c
theorem wipe_len (L : List Cl) (i : Nat) : (wipeL L i).length = L.length := by unfold wipeL; (repeat' split) <;> simp
theorem put_len (L : List Cl) (i n : Nat) (c : Cl) : (putL L i n c).length = L.length := by unfold putL; split <;> simp [wipe_len]
/-- Halves that have lost the other one, from the front on. -/
def mendAt (p : Option Cl) (c : Cl) (n : Option Cl) : Cl := if (c.w = 2 ∧ n.all (fun d => decide (d.w ≠ 0)) = true) ∨ (c.w = 0 ∧ p.all (fun d => decide (d.w ≠ 2)) = true) then blankC else c
def mendL (p : Option Cl) : List Cl → List Cl
  | [] => []
  | c :: t => mendAt p c t.head? :: mendL (some (mendAt p c t.head?)) t
theorem mend_left (p : Option Cl) (c d : Cl) (n : Option Cl) : mendAt (some (mendAt p c (some d))) d n = mendAt (some c) d n := by
  by_cases h : (c.w = 2 ∧ (some d : Option Cl).all (fun d => decide (d.w ≠ 0)) = true) ∨ (c.w = 0 ∧ p.all (fun d => decide (d.w ≠ 2)) = true)
  · have e : mendAt p c (some d) = blankC := if_pos h
    rw [e]
    unfold mendAt
    simp only [Option.all_some, decide_eq_true_eq] at h ⊢
    have hb : blankC.w ≠ 2 := by decide
    rcases h with ⟨h1, h2⟩ | ⟨h1, h2⟩
    · simp only [h2, false_and, or_false]
    · have : c.w ≠ 2 := by rw [h1]; decide
      simp only [hb, this, ne_eq, not_false_eq_true, and_true]
  · have e : mendAt p c (some d) = c := if_neg h
    rw [e]
theorem mendL_at (l : List Cl) (p : Option Cl) (j : Nat) : (mendL p l)[j]? = l[j]?.map fun c => mendAt (if j = 0 then p else l[j - 1]?) c l[j + 1]? := by
  induction l generalizing p j with
  | nil => simp [mendL]
  | cons a t ih =>
    rw [mendL]
    cases j with
    | zero => simp [List.head?_eq_getElem?]
    | succ j =>
      rw [List.getElem?_cons_succ, ih, List.getElem?_cons_succ, List.getElem?_cons_succ, Nat.add_sub_cancel, if_neg (Nat.succ_ne_zero j)]
      cases j with
      | zero =>
        cases t with
        | nil => simp
        | cons d t =>
          show some (mendAt (some (mendAt p a (some d))) d t[0]?) = some (mendAt (some a) d t[0]?)
          rw [mend_left]
      | succ j => simp
theorem mend_len (l : List Cl) (p : Option Cl) : (mendL p l).length = l.length := by
  induction l generalizing p with
  | nil => rfl
  | cons a t ih => simp [mendL, ih]
def blankN (l : List Cl) (i n : Nat) : List Cl := if n = 2 then (l.set i blankC).set (i + 1) blankC else l.set i blankC
/-- The document's way, in a row. -/
def putD (l : List Cl) (i n : Nat) (c : Cl) : List Cl := if n = 2 then ((mendL none (blankN l i n)).set i c).set (i + 1) (halfC c) else (mendL none (blankN l i n)).set i c
theorem getD_some {L : List Cl} {i : Nat} {c : Cl} (h : L[i]? = some c) : L.getD i blankC = c := by rw [List.getD_eq_getElem?_getD, h]; rfl
/-- What stands where, behind a rune put in. -/
def putAt (l : List Cl) (i n : Nat) (c : Cl) (j : Nat) : Option Cl :=
  if j = i then some c else if n = 2 ∧ j = i + 1 then some (halfC c)
  else if (j + 1 = i ∧ (l.getD i blankC).w = 0) ∨ (j = i + n ∧ (l.getD (i + n - 1) blankC).w = 2) then some blankC else l[j]?
theorem blank_w : blankC.w = 1 := rfl
theorem putL_at {l : List Cl} (h : rowB l = true) {i n : Nat} (hn : n = 1 ∨ n = 2) (hi : i + n ≤ l.length) (c : Cl) (j : Nat) : (putL l i n c)[j]? = putAt l i n c j := by
  have hx := List.getElem?_eq_getElem (show i < l.length by omega)
  obtain ⟨f1, f2, f3⟩ := row_facts h i _ hx
  have gx := getD_some hx
  rcases hn with rfl | rfl
  · unfold putL putAt wipeL
    rw [if_neg (by omega), gx, show i + 1 - 1 = i by omega, gx]
    by_cases h2 : l[i].w = 2
    · obtain ⟨d, hd, hd2⟩ := f2 h2
      have hl := (List.getElem?_eq_some_iff.1 hd).1
      rw [if_pos h2]
      simp only [List.getElem?_set, List.length_set]
      by_cases e1 : j = i
      · subst e1; simp; omega
      by_cases e2 : j = i + 1
      · subst e2
        simp only [show i ≠ i + 1 by omega, if_false, if_true, hl, show i + 1 ≠ i by omega, h2, and_self, or_true]
        simp
      · simp [e1, e2, Ne.symm e1, Ne.symm e2, h2]
    rw [if_neg h2]
    by_cases h0 : l[i].w = 0
    · obtain ⟨hi1, d, hd, hd2⟩ := f3 h0
      rw [if_pos h0]
      simp only [List.getElem?_set, List.length_set]
      by_cases e1 : j = i
      · subst e1; simp; omega
      by_cases e2 : j + 1 = i
      · have e3 : i - 1 = j := by omega
        simp only [e3, Ne.symm e1, if_false, if_true, e1, show j < l.length by omega, e2, h0, and_self, true_or]
        simp
      · simp [e1, e2, Ne.symm e1, show ¬ i - 1 = j by omega, h2]
    · rw [if_neg h0]
      simp only [List.getElem?_set, List.length_set]
      by_cases e1 : j = i
      · subst e1; simp; omega
      · simp [e1, Ne.symm e1, h0, h2]
  · have hy := List.getElem?_eq_getElem (show i + 1 < l.length by omega)
    obtain ⟨g1, g2, g3⟩ := row_facts h (i + 1) _ hy
    have gy := getD_some hy
    have hw1 : (wipeL l i)[i + 1]? = some (if l[i].w = 2 then blankC else l[i + 1]) := by
      unfold wipeL
      rw [gx]
      by_cases h2 : l[i].w = 2
      · rw [if_pos h2, if_pos h2]; simp [List.getElem?_set]; omega
      · rw [if_neg h2, if_neg h2]
        split
        · simp only [List.getElem?_set]; simp [show ¬ i - 1 = i + 1 by omega, hy]
        · simp only [List.getElem?_set]; simp [hy]
    have hw2 : (wipeL l i)[j]? = if j = i then some blankC else if (l[i].w = 2 ∧ j = i + 1) ∨ (l[i].w = 0 ∧ j + 1 = i) then some blankC else l[j]? := by
      unfold wipeL
      rw [gx]
      by_cases e1 : j = i
      · subst e1
        have hz : ∀ b : List Cl, b.length = l.length → (b.set j blankC)[j]? = some blankC := fun b hb => by rw [List.getElem?_set, if_pos rfl, if_pos (by omega)]
        rw [if_pos rfl]
        (repeat' split) <;> exact hz _ (by simp)
      rw [if_neg e1]
      by_cases h2 : l[i].w = 2
      · rw [if_pos h2]
        simp only [List.getElem?_set, List.length_set, Ne.symm e1, if_false]
        by_cases e2 : i + 1 = j
        · subst e2; simp [h2]; omega
        · simp [e2, Ne.symm e2, h2]
      rw [if_neg h2]
      by_cases h0 : l[i].w = 0
      · obtain ⟨hi1, d, hd, hd2⟩ := f3 h0
        rw [if_pos h0]
        simp only [List.getElem?_set, List.length_set, Ne.symm e1, if_false]
        by_cases e2 : i - 1 = j
        · have e3 : j + 1 = i := by omega
          simp only [e2, if_true, h0, e3, and_self, or_true]
          simp; omega
        · simp [e2, show ¬ j + 1 = i by omega, h2]
      · rw [if_neg h0]
        simp [List.getElem?_set, Ne.symm e1, h2, h0]
    unfold putL putAt
    rw [if_pos rfl, show i + 2 - 1 = i + 1 by omega, gx, gy]
    have hz1 := wipe_len (wipeL l i) (i + 1)
    have hz2 := wipe_len l i
    obtain ⟨L1, hL1⟩ : ∃ L1, wipeL l i = L1 := ⟨_, rfl⟩
    rw [hL1] at hw1 hw2 hz1 hz2 ⊢
    clear hL1
    by_cases e1 : j = i
    · subst e1
      rw [if_pos rfl, List.getElem?_set, if_pos rfl, if_pos (by simp [hz1, hz2]; omega)]
    rw [if_neg e1, List.getElem?_set, if_neg (Ne.symm e1)]
    by_cases e2 : j = i + 1
    · subst e2
      rw [if_pos ⟨rfl, rfl⟩, List.getElem?_set, if_pos rfl, if_pos (by rw [hz1, hz2]; omega)]
    rw [if_neg (by omega), List.getElem?_set, if_neg (Ne.symm e2)]
    conv => lhs; unfold wipeL
    rw [getD_some hw1, List.getElem?_set, if_neg (Ne.symm e2)]
    by_cases h2 : l[i].w = 2
    · obtain ⟨d, hd, hd2⟩ := f2 h2
      rw [hy] at hd
      injection hd with hd
      subst hd
      simp only [h2, if_true, blank_w]
      rw [if_neg (by omega), if_neg (by omega), hw2, if_neg e1, if_neg (by omega), if_neg (by omega)]
    simp only [h2, if_false]
    by_cases h3 : l[i + 1].w = 2
    · obtain ⟨d, hd, hd2⟩ := g2 h3
      rw [if_pos h3, List.getElem?_set]
      by_cases e3 : i + 1 + 1 = j
      · rw [if_pos e3, if_pos (by rw [hz2]; exact (List.getElem?_eq_some_iff.1 hd).1), if_pos (.inr ⟨by omega, h3⟩)]
      · rw [if_neg e3, hw2, if_neg e1]
        by_cases h9 : l[i].w = 0 ∧ j + 1 = i
        · rw [if_pos (.inr h9), if_pos (.inl ⟨h9.2, h9.1⟩)]
        · rw [if_neg (by omega), if_neg (by omega)]
    rw [if_neg h3]
    by_cases h4 : l[i + 1].w = 0
    · obtain ⟨_, d, hd, hd2⟩ := g3 h4
      rw [Nat.add_sub_cancel, hx] at hd
      injection hd with hd
      subst hd
      exact absurd hd2 h2
    rw [if_neg h4, hw2, if_neg e1]
    by_cases h9 : l[i].w = 0 ∧ j + 1 = i
    · rw [if_pos (.inr h9), if_pos (.inl ⟨h9.2, h9.1⟩)]
    · rw [if_neg (by omega), if_neg (by omega)]
theorem mend_keep {l : List Cl} (h : rowB l = true) {j : Nat} {c : Cl} (hj : l[j]? = some c) : mendAt (if j = 0 then none else l[j - 1]?) c l[j + 1]? = c := by
  obtain ⟨f1, f2, f3⟩ := row_facts h j c hj
  unfold mendAt
  rw [if_neg]
  rintro (⟨h1, h2⟩ | ⟨h1, h2⟩)
  · obtain ⟨d, hd, hd2⟩ := f2 h1
    rw [hd] at h2
    simp [hd2] at h2
  · obtain ⟨hi, d, hd, hd2⟩ := f3 h1
    rw [if_neg (by omega), hd] at h2
    simp [hd2] at h2
end Go.Proofs.YtmpajkfbiocmiaaDoor
namespace Go.Proofs.YtmpajkfbiocmiaaDoor
open Go.RowKit

def sameC (c d : Cl) : Bool := decide (c = d)
theorem sameC_eq (c d : Cl) : sameC c d = (decide (c.r = d.r) && decide (c.w = d.w) && styE c d) := by
  obtain ⟨r, w, a, b, e, f⟩ := c
  obtain ⟨r', w', a', b', e', f'⟩ := d
  unfold sameC styE
  rw [Bool.eq_iff_iff]
  simp [Cl.mk.injEq, and_assoc]
theorem styE_eq (c d : Cl) : styE c d = (c.fg == d.fg && c.bo == d.bo && c.un == d.un && c.iv == d.iv) := by
  unfold styE
  cases h : (c.fg == d.fg) <;> simp_all
theorem eqStyN (n : Nat) (c d : Cl) (w : World) : (Op.equalIn (n + 2) 28 (.agg #[.int .i64 c.fg, .bool c.bo, .bool c.un, .bool c.iv]) (.agg #[.int .i64 d.fg, .bool d.bo, .bool d.un, .bool d.iv])).run Tryd.prog w = .ok (styE c d) w := by
  have u3 := Tryd.underlying3
  have a3 := Tryd.isAgg3
  have z3 := Tryd.sizeOf3
  have u4 := Tryd.underlying4
  have a4 := Tryd.isAgg4
  have z4 := Tryd.sizeOf4
  have hS : Tryd.prog.underlying 28 = some (.struct (Tryd.prog.fieldsOf 28)) := by kernel_rfl
  have hp : Tryd.prog.stoodInHeld 28 = false := by kernel_rfl
  rw [run_equalIn_agg w (n + 1) 28 _ _ hS hp, styE_eq]
  simp only [Program.fieldsOf, Tryd.underlying28]
  go_simp
  by_cases h1 : c.fg = d.fg <;> by_cases h2 : c.bo = d.bo <;> by_cases h3 : c.un = d.un <;> by_cases h4 : c.iv = d.iv <;> simp [h1, h2, h3, h4]
theorem eqSty (c d : Cl) (w : World) : (Op.equalIn 9999 28 (.agg #[.int .i64 c.fg, .bool c.bo, .bool c.un, .bool c.iv]) (.agg #[.int .i64 d.fg, .bool d.bo, .bool d.un, .bool d.iv])).run Tryd.prog w = .ok (styE c d) w := eqStyN 9997 c d w
theorem eqSty1 (c d : Cl) (w : World) : (Op.equalIn 10000 28 (.agg #[.int .i64 c.fg, .bool c.bo, .bool c.un, .bool c.iv]) (.agg #[.int .i64 d.fg, .bool d.bo, .bool d.un, .bool d.iv])).run Tryd.prog w = .ok (styE c d) w := eqStyN 9998 c d w
theorem eqCell (c d : Cl) (w : World) : (Op.equalIn 10000 39 (clV c) (clV d)).run Tryd.prog w = .ok (sameC c d) w := by
  have u3 := Tryd.underlying3
  have a3 := Tryd.isAgg3
  have z3 := Tryd.sizeOf3
  have u1 := Tryd.underlying21
  have a1 := Tryd.isAgg21
  have z1 := Tryd.sizeOf21
  have a5 := Tryd.isAgg28
  have z5 := Tryd.sizeOf28
  have hS : Tryd.prog.underlying 39 = some (.struct (Tryd.prog.fieldsOf 39)) := by kernel_rfl
  have hp : Tryd.prog.stoodInHeld 39 = false := by kernel_rfl
  have hs := eqSty c d
  unfold clV
  rw [show (10000 : Nat) = 9999 + 1 from rfl, run_equalIn_agg w 9999 39 _ _ hS hp]
  simp only [Program.fieldsOf, Tryd.underlying39]
  go_simp
  rw [sameC_eq]
  by_cases h1 : c.r = d.r <;> by_cases h2 : c.w = d.w <;> cases h3 : styE c d <;> simp [h1, h2]
@[go_sem high] theorem neqCell (r wd fg : Int) (bo un iv : Bool) (r' wd' fg' : Int) (bo' un' iv' : Bool) (w : World) :
    (binOp .neq 39 (.agg #[.int .i32 r, .int .i64 wd, .int .i64 fg, .bool bo, .bool un, .bool iv]) (.agg #[.int .i32 r', .int .i64 wd', .int .i64 fg', .bool bo', .bool un', .bool iv'])).run Tryd.prog w = .ok (.bool (!sameC ⟨r, wd, fg, bo, un, iv⟩ ⟨r', wd', fg', bo', un', iv'⟩)) w := by
  have h := eqCell ⟨r, wd, fg, bo, un, iv⟩ ⟨r', wd', fg', bo', un', iv'⟩ w
  unfold clV at h
  rw [run_neq_struct, h]
  rfl
@[go_sem high] theorem neqStyle (fg : Int) (bo un iv : Bool) (fg' : Int) (bo' un' iv' : Bool) (w : World) :
    (binOp .neq 28 (.agg #[.int .i64 fg, .bool bo, .bool un, .bool iv]) (.agg #[.int .i64 fg', .bool bo', .bool un', .bool iv'])).run Tryd.prog w = .ok (.bool (!styE ⟨0, 0, fg, bo, un, iv⟩ ⟨0, 0, fg', bo', un', iv'⟩)) w := by
  have h := eqSty1 ⟨0, 0, fg, bo, un, iv⟩ ⟨0, 0, fg', bo', un', iv'⟩ w
  rw [run_neq_struct, h]
  rfl
@[go_sem] theorem guardCell (op : BinOp) (x y : Operand) (xs ys : Array Value) (w : World) : (eqGuard op 39 x y (.agg xs) (.agg ys)).run Tryd.prog w = .ok () w := run_eqGuard_agg w op _ x y xs ys (by kernel_rfl)
@[go_sem] theorem guardStyle (op : BinOp) (x y : Operand) (xs ys : Array Value) (w : World) : (eqGuard op 28 x y (.agg xs) (.agg ys)).run Tryd.prog w = .ok () w := run_eqGuard_agg w op _ x y xs ys (by kernel_rfl)
end Go.Proofs.YtmpajkfbiocmiaaDoor
namespace Go.Proofs.YtmpajkfbiocmiaaDoor
open Go.RowKit

theorem ClsAt.tail {W : World} {b o : Nat} {L : List Cl} (h : ClsAt W (some ⟨b, o, none⟩) L) (k : Nat) : ClsAt W (some ⟨b, o + k * 6, none⟩) (L.drop k) := by
  have := h.sub k L.length
  rwa [List.take_of_length_le (by simp)] at this
def lnOf : Value → Nat | .slice _ n _ => n | _ => 0
/-- A slice that reads as these cells, with its numbers. -/
def SlC (W : World) (v : Value) (L : List Cl) : Prop := ∃ A n cap, v = .slice A n cap ∧ n = L.length ∧ n ≤ cap ∧ cap ≤ maxLen ∧ ClsAt W A L
theorem SlC.below {w W : World} {v : Value} {L : List Cl} (h : SlC w v L) (hb : Below w.heap.size w W) : SlC W v L := by
  obtain ⟨A, n, cap, e, h1, h2, h3, h4⟩ := h
  exact ⟨A, n, cap, e, h1, h2, h3, h4.below hb⟩
theorem row_bad {c : Cl} {t : List Cl} (h : ¬ c.w = 1) (h2 : ¬ c.w = 2) : rowB (c :: t) = false := by
  cases t with
  | nil => simp [rowB, h]
  | cons d t => simp [rowB, h, h2]
theorem row_one {c : Cl} {t : List Cl} (h : c.w = 1) : rowB (c :: t) = (decide (cells c.r = 1) && styC c && rowB t) := by
  cases t with
  | nil => simp [rowB, h]
  | cons d t => simp [rowB, h]
theorem row_last {c : Cl} (h : c.w = 2) : rowB [c] = false := by simp [rowB, h]
theorem row_two {c d : Cl} {t : List Cl} (h : c.w = 2) : rowB (c :: d :: t) = (decide (cells c.r = 2) && styC c && decide (d = halfC c) && rowB t) := by simp [rowB, h]
/-- A slice that is cut in front. -/
theorem sl_front {W W' : World} {b o n cap k : Nat} {l : List Cl} (h : ClsAt W (some ⟨b, o, none⟩) l) (hn : n = l.length) (hc : n ≤ cap) (hb : Below W.heap.size W W') : ClsAt W' (if cap = k then some ⟨b, o, none⟩ else some ⟨b, o + k * 6, none⟩) (l.drop k) := by
  by_cases e : cap = k
  · rw [List.drop_eq_nil_of_le (by omega)]
    intro j c hj
    simp at hj
  · rw [if_neg e]
    exact (h.tail k).below hb
theorem below_drewG {B : Nat} {a w : World} (h : Below B a w) (n : Nat) : Below B a (w.drewN n) := ⟨h.os, h.tape, h.output, h.size, h.block⟩

set_option maxRecDepth 100000 in
set_option maxHeartbeats 4000000 in
theorem row_any (L : List Cl) (v : Value) (w : World) (h : SlC w v L) (hT : WTabs w) :
    Calls Tryd.prog 14 #[v] w fun e w' => e = .returned (.bool (rowB L)) ∧ Below w.heap.size w w' := by
  have HT := hide hT
  have H := hide h
  obtain ⟨A0, n0, cap0, rfl, -⟩ := h
  clear hT
  go_enter Tryd.func14, Tryd.ntmps14
  go_wp2
  go_loopw [0] (fun v wr => ∃ (A : Option Addr) (n cap : Nat) (l : List Cl), v = .slice A n cap ∧ Hid (n = l.length) ∧ n ≤ cap ∧ cap ≤ maxLen ∧ n ≤ L.length ∧ Hid (ClsAt wr A l) ∧ Hid (rowB l = rowB L) ∧ Hid (Below w.heap.size w wr)) (fun v _ => lnOf v)
  case atStart =>
    obtain ⟨A, n, cap, e, h1, h2, h3, h4⟩ := H.out
    exact ⟨A, n, cap, L, e, hide h1, h2, h3, by omega, hide h4, hide rfl, hide (Below.refl _ _)⟩
  case round =>
    obtain ⟨A, n, cap, l, rfl, HN, hn, hcap, hnL, HC, HR, HB⟩ := hrel
    cases l with
    | nil =>
      obtain rfl : n = 0 := HN.out
      go_wp2
      go_ret
      exact ⟨by rw [← HR.out]; rfl, HB.out⟩
    | cons c t =>
      obtain ⟨b, o, rfl, hlt, c0, c1, c2, c3, c4, c5⟩ := HC.out.at (j := 0) (c := c) rfl
      rw [Nat.zero_mul, Nat.add_zero] at c0 c1 c2 c3 c4 c5
      have hn1 : 1 ≤ n := by have := HN.out; simp only [List.length_cons] at this; omega
      obtain ⟨r, wd, fg, bo, un, iv⟩ := c
      dsimp only at c0 c1 c2 c3 c4 c5
      have HA := hide (show Below wr.heap.size wr (wr.alloc (.cells #[.int .i32 r, .int .i64 wd, .int .i64 fg, .bool bo, .bool un, .bool iv] 39)) from (Below.refl _ _).alloc (Nat.le_refl _) _)
      have HK := hide (Blk.new wr 39 [.int .i32 r, .int .i64 wd, .int .i64 fg, .bool bo, .bool un, .bool iv])
      have HO := hide (fun W hW => wof_any r W hW)
      have HS := hide (fun W => style_any ⟨r, wd, fg, bo, un, iv⟩ W)
      have HX1 := hide (fun h => @row_one ⟨r, wd, fg, bo, un, iv⟩ t h)
      have HXB := hide (fun h h2 => @row_bad ⟨r, wd, fg, bo, un, iv⟩ t h h2)
      have HXL := hide (fun h => @row_last ⟨r, wd, fg, bo, un, iv⟩ h)
      have HXT := hide (fun d t h => @row_two ⟨r, wd, fg, bo, un, iv⟩ d t h)
      obtain ⟨cr, hcr⟩ : ∃ x, cells r = x := ⟨_, rfl⟩
      obtain ⟨sc, hsc⟩ : ∃ x, styC ⟨r, wd, fg, bo, un, iv⟩ = x := ⟨_, rfl⟩
      have HCR := hide hcr
      have HSC := hide hsc
      clear hcr hsc
      have HT1 := hide (HT.out.below (HB.out.trans (HA.out.mono HB.out.size)))
      have HBA := hide (HB.out.trans (HA.out.mono HB.out.size))
      have HCL := hide (fun W (hb : Below wr.heap.size wr W) k => sl_front (k := k) HC.out HN.out hn hb)
      by_cases h1 : wd = 1
      · subst h1
        have HX := hide (HX1.out rfl)
        clear HX1 HXB HXL HXT
        by_cases hw : cr = 1
        · subst hw
          cases sc with
          | true =>
            go_wp2_with (first
              | (go_at_call 26; refine (HO.out _ HT1.out).mono ?_; rintro e w1 ⟨rfl, hb1⟩; rw [HCR.out]; have d2 := (HK.out.below hb1).cell (i := 2) rfl; have d3 := (HK.out.below hb1).cell (i := 3) rfl; have d4 := (HK.out.below hb1).cell (i := 4) rfl; have d5 := (HK.out.below hb1).cell (i := 5) rfl; have HB1 := hide hb1)
              | (go_at_call 27; refine (HS.out _).mono ?_; rintro e w2 ⟨rfl, hb2⟩; rw [HSC.out]; have HB2 := hide hb2)
              | fail)
            have HBB := hide (HA.out.trans ((HB1.out.trans (HB2.out.mono HB1.out.size)).mono (by simp)))
            go_region
            all_goals go_wp2
            go_roundw
            case rel => exact ⟨_, _, _, t, rfl, hide (by have := HN.out; simp only [List.length_cons] at this; omega), by omega, by omega, by omega, hide (HCL.out _ HBB.out 1), hide (by rw [← HR.out, HX.out, HCR.out, HSC.out]; simp), hide (below_drewG (HB.out.trans (HBB.out.mono HB.out.size)) _)⟩
            case measure => simp [lnOf]; omega
          | false =>
            go_wp2_with (first
              | (go_at_call 26; refine (HO.out _ HT1.out).mono ?_; rintro e w1 ⟨rfl, hb1⟩; rw [HCR.out]; have d2 := (HK.out.below hb1).cell (i := 2) rfl; have d3 := (HK.out.below hb1).cell (i := 3) rfl; have d4 := (HK.out.below hb1).cell (i := 4) rfl; have d5 := (HK.out.below hb1).cell (i := 5) rfl; have HB1 := hide hb1)
              | (go_at_call 27; refine (HS.out _).mono ?_; rintro e w2 ⟨rfl, hb2⟩; rw [HSC.out]; have HB2 := hide hb2)
              | fail)
            have HBB := hide (HA.out.trans ((HB1.out.trans (HB2.out.mono HB1.out.size)).mono (by simp)))
            go_ret
            exact ⟨ret_bG (by rw [← HR.out, HX.out, HSC.out]; simp), HB.out.trans (HBB.out.mono HB.out.size)⟩
        · go_wp2_with (first
              | (go_at_call 26; refine (HO.out _ HT1.out).mono ?_; rintro e w1 ⟨rfl, hb1⟩; rw [HCR.out]; have HB1 := hide hb1)
              | fail)
          have HBB := hide (HA.out.trans (HB1.out.mono (by simp)))
          go_ret
          exact ⟨ret_bG (by rw [← HR.out, HX.out, HCR.out]; simp [hw]), HB.out.trans (HBB.out.mono HB.out.size)⟩
      by_cases h2 : wd = 2
      · subst h2
        cases t with
        | nil =>
          have HX := hide (HXL.out rfl)
          have hn1 : n = 1 := HN.out
          subst hn1
          clear HX1 HXB HXL HXT
          go_wp2
          go_ret
          exact ⟨ret_bG (by rw [← HR.out, HX.out]), HBA.out⟩
        | cons d t =>
          have HX := hide (HXT.out d t rfl)
          clear HX1 HXB HXL HXT
          have hn2 : 2 ≤ n := by have := HN.out; simp only [List.length_cons] at this; omega
          have HCA := hide (fun W (hb : Below wr.heap.size wr W) => ClsAt.at (show ClsAt W _ _ from HC.out.below hb) (j := 1) (c := d) rfl)
          by_cases hw : cr = 2
          · subst hw
            cases sc with
            | true =>
              go_wp2_with (first
                | (go_at_call 26; refine (HO.out _ HT1.out).mono ?_; rintro e w1 ⟨rfl, hb1⟩; rw [HCR.out]; have d2 := (HK.out.below hb1).cell (i := 2) rfl; have d3 := (HK.out.below hb1).cell (i := 3) rfl; have d4 := (HK.out.below hb1).cell (i := 4) rfl; have d5 := (HK.out.below hb1).cell (i := 5) rfl; have HK1 := hide (HK.out.below hb1); have HB1 := hide hb1)
                | (go_at_call 27; refine (HS.out _).mono ?_; rintro e w2 ⟨rfl, hb2⟩; rw [HSC.out]; have HK2 := hide (HK1.out.below hb2); have HB2 := hide hb2)
                | fail)
              have HBB := hide (HA.out.trans ((HB1.out.trans (HB2.out.mono HB1.out.size)).mono (by simp)))
              clear d2 d3 d4 d5 hb1 hb2
              have d2 := HK2.out.cell (i := 2) rfl
              have d3 := HK2.out.cell (i := 3) rfl
              have d4 := HK2.out.cell (i := 4) rfl
              have d5 := HK2.out.cell (i := 5) rfl
              obtain ⟨b', o', e, hlt', g0, g1, g2, g3, g4, g5⟩ := HCA.out _ HBB.out
              injection e with e
              injection e with e1 e2
              subst e1 e2
              simp only [Nat.one_mul] at g0 g1 g2 g3 g4 g5
              obtain ⟨r', wd', fg', bo', un', iv'⟩ := d
              dsimp only at g0 g1 g2 g3 g4 g5
              by_cases hd : (⟨r', wd', fg', bo', un', iv'⟩ : Cl) = ⟨0, 0, fg, bo, un, iv⟩
              · have HD := hide hd
                have hsame : sameC ⟨r', wd', fg', bo', un', iv'⟩ ⟨0, 0, fg, bo, un, iv⟩ = true := by unfold sameC; rw [HD.out]; simp
                clear hd
                go_region
                all_goals go_wp2
                go_roundw
                case rel => exact ⟨_, _, _, t, rfl, hide (by have := HN.out; simp only [List.length_cons] at this; omega), by omega, by omega, by omega, hide (HCL.out _ HBB.out 2), hide (by rw [← HR.out, HX.out, HCR.out, HSC.out, HD.out]; simp [halfC]), hide (below_drewG (HB.out.trans (HBB.out.mono HB.out.size)) _)⟩
                case measure => simp [lnOf]; omega
              · have HD := hide hd
                have hsame : sameC ⟨r', wd', fg', bo', un', iv'⟩ ⟨0, 0, fg, bo, un, iv⟩ = false := by unfold sameC; exact decide_eq_false HD.out
                clear hd
                go_region
                all_goals go_wp2
                go_ret
                exact ⟨ret_bG (by rw [← HR.out, HX.out, show decide ((⟨r', wd', fg', bo', un', iv'⟩ : Cl) = halfC ⟨r, 2, fg, bo, un, iv⟩) = false from decide_eq_false HD.out]; simp), below_drewG (HB.out.trans (HBB.out.mono HB.out.size)) _⟩
            | false =>
              go_wp2_with (first
                | (go_at_call 26; refine (HO.out _ HT1.out).mono ?_; rintro e w1 ⟨rfl, hb1⟩; rw [HCR.out]; have d2 := (HK.out.below hb1).cell (i := 2) rfl; have d3 := (HK.out.below hb1).cell (i := 3) rfl; have d4 := (HK.out.below hb1).cell (i := 4) rfl; have d5 := (HK.out.below hb1).cell (i := 5) rfl; have HB1 := hide hb1)
                | (go_at_call 27; refine (HS.out _).mono ?_; rintro e w2 ⟨rfl, hb2⟩; rw [HSC.out]; have HB2 := hide hb2)
                | fail)
              have HBB := hide (HA.out.trans ((HB1.out.trans (HB2.out.mono HB1.out.size)).mono (by simp)))
              go_ret
              exact ⟨ret_bG (by rw [← HR.out, HX.out, HSC.out]; simp), HB.out.trans (HBB.out.mono HB.out.size)⟩
          · go_wp2_with (first
                | (go_at_call 26; refine (HO.out _ HT1.out).mono ?_; rintro e w1 ⟨rfl, hb1⟩; rw [HCR.out]; have HB1 := hide hb1)
                | fail)
            have HBB := hide (HA.out.trans (HB1.out.mono (by simp)))
            go_ret
            exact ⟨ret_bG (by rw [← HR.out, HX.out, HCR.out]; simp [hw]), HB.out.trans (HBB.out.mono HB.out.size)⟩
      · have HX := hide (HXB.out h1 h2)
        clear HX1 HXB HXL HXT
        go_wp2_with (first
          | (go_at_call 26; refine (HO.out _ HT1.out).mono ?_; rintro e w1 ⟨rfl, hb1⟩; fail)
          | fail)
        all_goals go_ret
        all_goals exact ⟨ret_bG (by rw [← HR.out, HX.out]), HBA.out⟩
end Go.Proofs.YtmpajkfbiocmiaaDoor
