/- The frame of a law's proof: a call that answers true, and of which 'Below' is known, meets its specification. Opening a slice whose elements are laid in k cells each, whatever they are. A range over a function, opened by hand: the iterator is called in the world where the loop's record lies; a call of yield is one round of the body. Plain facts on how many cells runes take. No program in sight. Plain: what a screen shows: when its rows may be. No program in sight. -/
import Derived.Test.YtmemdhmjhckmaaaDoorRows
import Derived.WalkKit
import Derived.ProofKit
import Derived.OpenShut
import Derived.ShutString
import Derived.SliceStrings
import Derived.SizedLaws
import Derived.JoinedCond
import Derived.RangeFuncNested
import Derived.RangeFuncBound
import Derived.RangeFuncCalls
import Derived.RangeFuncLeaves
import Derived.Shelf.Abstract
import Derived.Shelf.RegionOpen
import Derived.OwnWalkIn
import Derived.TacticsInMore
import Derived.LoopNIn
import Derived.LoopIn
import Derived.Lib.Strings
namespace Go.Proofs.YtmemdhmjhckmaaaDoor
open Go.ChangeShapes Go.WideShapes Go.ChangeAt Go.RowKit
open Go.ChangeMaps (open_string)

theorem own : ownKnob Tryd.prog.godebug = none := by kernel_rfl
theorem laidOut : laidOutB Tryd.prog = true := by kernel_rfl

section
variable {H : Type} {enc : TypeId × Value → H}
theorem trodAll_below {W W' : World} (hb : Below W.heap.size W W') {sp : Nat → Bool} : ∀ {ts : List TypeId} {vs : List Value} {ds : List (DataW H)} {ps : List MemPlace},
    (∀ t ∈ ts, Tryd.prog.readableRec t = true ∧ t < Tryd.prog.types.size) → DataW.TrodAll enc Tryd.prog W 0 (fun _ => true) true ts vs ds ps → (∀ x ∈ ps, x.block < W.heap.size) → (∀ x ∈ ps, sp x.block = true) →
    DataW.TrodAll enc Tryd.prog W' 0 sp true ts vs ds ps
  | [], [], [], _, _, h, _, _ => h
  | _ :: _, _ :: _, _ :: _, _, ht, ⟨p, q, h1, h2, e⟩, hlt, hs =>
    ⟨p, q, WideElems.Trod_stays laidOut (ht _ (List.mem_cons_self ..)).1 (ht _ (List.mem_cons_self ..)).2 h1 (fun x hx => hb.same (hlt x (by rw [e]; exact List.mem_append_left _ hx))) (fun x hx => hs x (by rw [e]; exact List.mem_append_left _ hx)),
      trodAll_below hb (fun t h => ht t (List.mem_cons_of_mem _ h)) h2 (fun x hx => hlt x (by rw [e]; exact List.mem_append_right _ hx)) (fun x hx => hs x (by rw [e]; exact List.mem_append_right _ hx)), e⟩
  | [], [], _ :: _, _, _, h, _, _ => h.elim
  | [], _ :: _, _, _, _, h, _, _ => h.elim
  | _ :: _, [], _, _, _, h, _, _ => h.elim
  | _ :: _, _ :: _, [], _, _, h, _, _ => h.elim
theorem trodAll_length {P : Program} {W : World} {b : Nat} {sp : Nat → Bool} {hd : Bool} : ∀ {ts : List TypeId} {vs : List Value} {ds : List (DataW H)} {ps : List MemPlace}, DataW.TrodAll enc P W b sp hd ts vs ds ps → ds.length = ts.length
  | [], [], [], _, _ => rfl
  | _ :: _, _ :: _, _ :: _, _, ⟨_, _, _, h2, _⟩ => by simp [trodAll_length h2]
  | [], [], _ :: _, _, h => h.elim
  | [], _ :: _, _, _, h => h.elim
  | _ :: _, [], _, _, h => h.elim
  | _ :: _, _ :: _, [], _, h => h.elim

/-- A call that answered true, and let all that lay there be as it was, meets the law's specification. -/
theorem law_post {f : Func} {s : ChangeSpec} {tb : TypeId} {W W' : World} {args : Array Value} {ds gs : List (DataW H)} {before : List MemPlace}
    (hv : s.vars = []) (hfn : ∀ ds : List (DataW H), ds.length = f.params.size → s.fn H ds = { results := [.lit (.bool true)], args := ds })
    (hr : f.resultTypes = #[tb]) (htb : Tryd.prog.underlying tb = some .bool) (hts : ∀ t ∈ f.params.toList, Tryd.prog.readableRec t = true ∧ t < Tryd.prog.types.size)
    (hW : DataW.Whole enc Tryd.prog f.params.toList s.vars false W args.toList ds gs before) (hb : Below W.heap.size W W') :
    s.post enc Tryd.prog f false true false false W args (.bool true) W' := by
  have hW' := hW
  have hlt : ∀ p ∈ before, p.block < W.heap.size := fun p hp => hW.lt p hp
  obtain ⟨p, q, hA, hV, e, _, _⟩ := hW
  rw [hv] at hV
  obtain ⟨rfl, rfl⟩ := trodVars_none hV
  simp only [List.append_nil] at e
  subst e
  have hl := trodAll_length hA
  have hF := hfn ds (by simpa using hl)
  refine ⟨ds, [], before, [], before, [], hW', ?_, ?_, ?_, ?_, fun h => by cases h⟩
  · rw [List.append_nil, hF, hr]
    exact trodAll_cons_mk (shut_bool htb true) trodAll_mk0
  · rw [List.append_nil, hF]
    exact trodAll_below hb hts hA hlt (fun x hx => by simpa using hlt x hx)
  · rw [hv, List.append_nil, hF]; rfl
  · exact World.keptBut_mono (fun p hp => ⟨hp, by simpa using hp⟩) (hb.frame (· ∈ before))

theorem okWide_array {P : Program} {w : World} {r : Reach} {b : Nat} {t e : TypeId} {n : Nat} {v : Value} (ht : P.underlying t = some (.array n e)) (h : Value.okWide P w r b t v) : ∃ cs, v = .agg cs ∧ cs.size = P.cellsOf t := by
  unfold Value.okWide at h
  rw [ht] at h
  obtain ⟨cs, e, hs, _⟩ := h
  exact ⟨cs, e, hs⟩
end
end Go.Proofs.YtmemdhmjhckmaaaDoor
namespace Go.Proofs.YtmemdhmjhckmaaaDoor
open Go.ChangeShapes Go.WideShapes Go.ChangeAt Go.RowKit

theorem okWide_structP {P : Program} {w : World} {r : Reach} {b : Nat} {t : TypeId} {fs : Array Field} {v : Value} (ht : P.underlying t = some (.struct fs)) (h : Value.okWide P w r b t v) : ∃ cs, v = .agg cs ∧ cs.size = P.cellsOf t := by
  unfold Value.okWide at h
  rw [ht] at h
  obtain ⟨cs, e, hs, _⟩ := h
  exact ⟨cs, e, hs⟩
theorem wfB {n : Int} (h : (Lit.int .u8 n).wf = true) : 0 ≤ n ∧ n ≤ 255 := by
  simp [Lit.wf] at h
  exact h
theorem wfI {n : Int} (h : (Lit.int .i64 n).wf = true) : -9223372036854775808 ≤ n ∧ n ≤ 9223372036854775807 := by
  simp [Lit.wf] at h
  exact h
theorem wfR {n : Int} (h : (Lit.int .i32 n).wf = true) : -2147483648 ≤ n ∧ n ≤ 2147483647 := by
  simp [Lit.wf] at h
  exact h

/-- Where the elements of a row lie, each in k cells. -/
def RowOf {α : Type} (W : World) (k : Nat) (f : α → List Value) (A : Option Addr) (l : List α) : Prop :=
  ∀ j x, l[j]? = some x → ∃ b o, A = some ⟨b, o, none⟩ ∧ b < W.heap.size ∧ ∀ i u, (f x)[i]? = some u → W.cell? ⟨b, o + j * k + i, none⟩ = some u
theorem RowOf.below {α : Type} {A W : World} {k : Nat} {f : α → List Value} {a : Option Addr} {l : List α} (h : RowOf A k f a l) (hb : Below A.heap.size A W) : RowOf W k f a l := by
  intro j x hx
  obtain ⟨b, o, e, hlt, hc⟩ := h j x hx
  exact ⟨b, o, e, Nat.lt_of_lt_of_le hlt hb.size, fun i u hu => (hb.cell (p := ⟨b, o + j * k + i, none⟩) hlt).trans (hc i u hu)⟩

theorem build_list {α : Type} (p : Nat → α → Prop) : ∀ n, (∀ i, i < n → ∃ a, p i a) → ∃ l : List α, l.length = n ∧ ∀ i a, l[i]? = some a → p i a
  | 0, _ => ⟨[], rfl, fun i a h => by simp at h⟩
  | n + 1, h => by
    obtain ⟨l, hl, hp⟩ := build_list p n (fun i hi => h i (by omega))
    obtain ⟨a, ha⟩ := h n (by omega)
    refine ⟨l ++ [a], by simp [hl], fun i b hb => ?_⟩
    by_cases hi : i < n
    · rw [List.getElem?_append_left (by omega)] at hb
      exact hp i b hb
    · have := (List.getElem?_eq_some_iff.1 hb).1
      simp [hl] at this
      obtain rfl : i = n := by omega
      rw [List.getElem?_append_right (by omega), hl, Nat.sub_self] at hb
      obtain rfl : a = b := by simpa using hb
      exact ha

section
variable {H : Type} {enc : TypeId × Value → H}
theorem rows_of_cells {P : Program} {α : Type} {w : World} {t e : TypeId} {cs : List Value} {x : DataW H × List MemPlace} {fuel : Nat} (k : Nat) (hk : 0 < k) (f : α → List Value) (R : α → Prop)
    (ht : P.underlying t = some (.slice e)) (hc : P.cellsOf e = k)
    (hel : ∀ (n : Nat) (cs : List Value) (x : DataW H × List MemPlace), cs.length = k → DataW.trod enc P w 0 (fun _ => true) true n e cs = some x → ∃ a : α, cs = f a ∧ R a)
    (hf : DataW.trod enc P w 0 (fun _ => true) true fuel t cs = some x) :
    ∃ (A : Option Addr) (cap : Nat) (l : List α), cs = [.slice A l.length cap] ∧ l.length ≤ cap ∧ cap ≤ maxLen ∧ (∀ x ∈ l, R x) ∧ (A = none → cap = 0) ∧ RowOf w k f A l := by
  rcases DataW.trod_slice ht hf with ⟨hcs, _⟩ | ⟨a, len, cap, elems, rest, n, rfl, hcs, _, _, hlen, hcap, hel2, hi, _, _⟩
  · exact ⟨none, 0, [], by rw [hcs]; rfl, Nat.le_refl _, by unfold maxLen; omega, fun x h => by simp at h, fun _ => rfl, fun j x h => by simp at h⟩
  · rw [hc] at hi
    obtain ⟨l, hl, hp⟩ := build_list (fun i (y : α) => R y ∧ ∃ b o, some a = some (⟨b, o, none⟩ : Addr) ∧ b < w.heap.size ∧ ∀ q u, (f y)[q]? = some u → w.cell? ⟨b, o + i * k + q, none⟩ = some u) len (fun i hlt => by
      have h1 := hi i hlt
      rw [List.getElem?_eq_getElem (show i < elems.length by omega)] at h1
      obtain ⟨cs', h2, h3⟩ := Option.bind_eq_some_iff.1 h1
      obtain ⟨_, h4, h5⟩ := World.cells?_some h2
      obtain ⟨y, rfl, hy⟩ := hel n cs' _ h4 h3
      obtain ⟨b, off, spot⟩ := a
      have hspot : spot = none := by
        have g1 := hi 0 (by omega)
        rw [List.getElem?_eq_getElem (show 0 < elems.length by omega)] at g1
        obtain ⟨cs0, g2, _⟩ := Option.bind_eq_some_iff.1 g1
        obtain ⟨_, g4, g5⟩ := World.cells?_some g2
        have g6 := g5 0 hk
        rw [List.getElem?_eq_getElem (by omega)] at g6
        simpa [Addr.add] using World.cell?_spot g6
      subst hspot
      have hc0 := h5 0 hk
      rw [List.getElem?_eq_getElem (by omega)] at hc0
      simp only [Addr.add_lit] at hc0 h5
      refine ⟨y, hy, b, off, rfl, World.block_lt_of_cell? _ _ hc0, fun q u hu => ?_⟩
      rw [h5 q (by have := (List.getElem?_eq_some_iff.1 hu).1; omega)]
      exact hu)
    refine ⟨some a, cap, l, by rw [hcs, hl], by omega, hcap, fun x hx => ?_, (fun e => by cases e), fun j x hx => (hp j x hx).2⟩
    obtain ⟨i, hlt, rfl⟩ := List.getElem_of_mem hx
    exact (hp i _ (List.getElem?_eq_getElem hlt)).1
theorem open_rows {P : Program} {α : Type} {w : World} {t e : TypeId} {v : Value} {d : DataW H} {p : List MemPlace} {b0 : Nat} (k : Nat) (hk : 0 < k) (f : α → List Value) (R : α → Prop)
    (ht : P.underlying t = some (.slice e)) (hc : P.cellsOf e = k)
    (hel : ∀ (n : Nat) (cs : List Value) (x : DataW H × List MemPlace), cs.length = k → DataW.trod enc P w 0 (fun _ => true) true n e cs = some x → ∃ a : α, cs = f a ∧ R a)
    (hv : Value.okWide P w .any b0 t v) (h : DataW.Trod enc P w 0 (fun _ => true) true t v d p) :
    ∃ (A : Option Addr) (cap : Nat) (l : List α), v = .slice A l.length cap ∧ l.length ≤ cap ∧ cap ≤ maxLen ∧ (∀ x ∈ l, R x) ∧ (A = none → cap = 0) ∧ RowOf w k f A l := by
  obtain ⟨a0, len, cap, rfl⟩ := okWide_slice ht hv
  obtain ⟨fuel, hf⟩ := h
  obtain ⟨A, cap', l, e1, r⟩ := rows_of_cells k hk f R ht hc hel hf
  simp [Value.cells] at e1
  obtain ⟨rfl, rfl, rfl⟩ := e1
  exact ⟨_, _, l, rfl, r⟩
end
end Go.Proofs.YtmemdhmjhckmaaaDoor
namespace Go.Proofs.YtmemdhmjhckmaaaDoor
open Go.RowKit Go.Shelf
variable {F : Fence} {n : Nat} {P : Program}

theorem range_open {g : Operand} {ps : Array Tmp} {assign body : Code} {Q : Exit → Act → World → Prop} {a : Act} {w : World} (hro : F.round = none) (h1 : 1 ≤ n) {gf : Nat} {lb : Array Value}
    (hg : a.eval g = .func (.func gf) #[] lb) (hF : F.fn gf) (eg : ∀ args w, (callFunc gf args).run P w = .ok (.enter gf args) w)
    (h : ∀ (fn : FuncId) (rec : LoopState → Option Code → Loop), F.fn fn → (rec = fun st pe => { state := st, pending := pe, fn, tmps := a.tmps, params := ps, assign, body, defers := w.heap.size }) →
      CallsIn F (n - 1) P gf (#[.func (.yield (w.heap.size + 1)) #[] #[]] ++ lb) ((w.alloc (.deferred (some []))).alloc (.loop (rec .ready none)))
        (rangePost F n P (w.heap.size + 1) Q { a with defers := { target := .collected w.heap.size, args := #[] } :: a.defers })) :
    (Code.rangeFunc g ps assign body).wpIn F n P Q a w := by
  refine wpIn_rangeFunc fun fn hfn => ?_
  rw [hro]
  have h9 := h fn _ hfn rfl
  have he := run_enterLoop_outer (P := P) (w := w) fn a.tmps ps assign body
  obtain ⟨W1, hW1⟩ : ∃ W1, (w.alloc (.deferred (some []))).alloc (.loop { state := .ready, pending := none, fn, tmps := a.tmps, params := ps, assign, body, defers := w.heap.size }) = W1 := ⟨_, rfl⟩
  rw [hW1] at he
  have h9 : CallsIn F (n - 1) P gf (#[.func (.yield (w.heap.size + 1)) #[] #[]] ++ lb) W1 (rangePost F n P (w.heap.size + 1) Q { a with defers := { target := .collected w.heap.size, args := #[] } :: a.defers }) := by rw [← hW1]; exact h9
  clear hW1 h
  refine ⟨w.heap.size + 1, [{ target := .collected w.heap.size, args := #[] }], W1, { target := .fn (.func gf) lb, args := #[.func (.yield (w.heap.size + 1)) #[] #[]] }, W1, gf, #[.func (.yield (w.heap.size + 1)) #[] #[]] ++ lb, W1, ?_, ?_, ?_, ?_, fun _ => h1, ?_⟩
  · exact he
  · simp only [resolve, hg]
    simp [go_sem]
  · intro f' hf'; simp [Target.leads] at hf'; subst hf'; exact hF
  · simp [invoke, go_sem, eg]
  · exact h9

theorem round_at {l : Nat} {r : Loop} {W : World} {tm : Array Value} {a1 : Act} {R : Ending → World → Prop} (h : W.heap[l]? = some (.loop r)) (hr : r.state = .ready) (hF : F.fn r.fn)
    (hassign : ∀ K : Act → World → Prop, K a1 W → r.assign.wpIn (F.inRound l) n P (Exit.then K (fun _ _ _ => False)) { tmps := tm, defers := [] } W)
    (hbody : r.body.wpIn (F.inRound l) n P (roundPost P l R) a1 (W.putObj l (.loop { r with state := .busy }))) :
    RoundIn F n P l r.fn tm r.assign r.body W R :=
  roundIn_of_wpIn hF (hassign _ ⟨_, run_beginRound h hr, hbody⟩)
theorem end_ex {l : Nat} {r : Loop} {pe : Option Code} {W : World} (h : W.heap[l]? = some (.loop r)) (hb : r.state ≠ .busy) (hp : r.pending = pe) : ∃ o', (Instr.endLoop l).run P W = .ok pe (W.putObj l o') := by
  subst hp
  exact ⟨_, run_endLoop h hb⟩
theorem round_end {l : Nat} {rec : LoopState → Option Code → Loop} {W : World} (hR : ∀ st pe st' pe', { rec st pe with state := st', pending := pe' } = rec st' pe') (h : W.heap[l]? = some (.loop (rec .busy none))) (jump : Option Code) :
    (Instr.endRound l jump).run P W = .ok (.bool jump.isNone) (W.putObj l (.loop (rec (if jump.isNone then .ready else .done) jump))) := by
  rw [run_endRound jump h, hR]
theorem rec_state {rec : LoopState → Option Code → Loop} (hR : ∀ st pe st' pe', { rec st pe with state := st', pending := pe' } = rec st' pe') (hP : ∀ st pe, (rec st pe).pending = pe ∧ (rec st pe).state = st) : { rec .ready none with state := .busy } = rec .busy none :=
  (congrArg (fun p => ({ rec .ready none with state := .busy, pending := p } : Loop)) (hP .ready none).1).trans (hR .ready none .busy none)
theorem putObj_box {W : World} {B l : Nat} {t : TypeId} {v : Value} {o o' : Obj} (h : Boxed W B t v) (hl : W.heap[l]? = some o) (ho : o.isCells = false) : Boxed (W.putObj l o') B t v := by
  refine (World.putObj_heap_other (fun e => ?_)).trans h
  subst e
  rw [show W.heap[B]? = _ from h] at hl
  cases hl; cases ho
end Go.Proofs.YtmemdhmjhckmaaaDoor
namespace Go.Proofs.YtmemdhmjhckmaaaDoor

def hid : List (Int × Int) := [(0, 31), (127, 159), (768, 879), (8203, 8207), (8232, 8238), (55296, 57343), (65024, 65039), (65279, 65279)]
def wid : List (Int × Int) := [(4352, 4447), (11904, 12350), (12353, 13311), (13312, 19903), (19968, 40959), (40960, 42191), (44032, 55203), (63744, 64255), (65072, 65135), (65281, 65376), (65504, 65510), (127744, 128591), (129280, 129535), (131072, 262141)]
def hid2 : List (Int × Int) := [(127, 159), (768, 879), (8203, 8207), (8232, 8238), (65024, 65039), (65279, 65279)]

/-- Is r in one of the runs? -/
def among (l : List (Int × Int)) (r : Int) : Bool := l.any fun p => decide (p.1 ≤ r) && decide (r ≤ p.2)
/-- What the search finds: the first run that ends at r or behind. -/
def place (l : List (Int × Int)) (r : Int) : Nat := (List.range l.length).countP fun i => !decide (r ≤ (l[i]?.getD (0, 0)).2)

theorem place_eq (l : List (Int × Int)) (r : Int) : place l r = l.countP fun p => !decide (r ≤ p.2) := by
  unfold place
  have h : l = (List.range l.length).map fun i => l[i]?.getD (0, 0) := by
    apply List.ext_getElem
    · simp
    · intro i h1 h2
      simp [h1]
  conv => rhs; rw [h]
  rw [List.countP_map]
  rfl
/-- The runs rise: each ends ahead of where the next ones begin, and none ends ahead of its beginning. -/
def Rise (l : List (Int × Int)) : Prop := l.Pairwise (fun p q => p.2 < q.1) ∧ ∀ p ∈ l, p.1 ≤ p.2
instance (l : List (Int × Int)) : Decidable (Rise l) := by unfold Rise; infer_instance
theorem rise_hid : Rise hid := by decide
theorem rise_wid : Rise wid := by decide
theorem Rise.tail {p : Int × Int} {l : List (Int × Int)} (h : Rise (p :: l)) : Rise l := ⟨(List.pairwise_cons.1 h.1).2, fun q hq => h.2 q (List.mem_cons_of_mem _ hq)⟩

theorem place_le (l : List (Int × Int)) (r : Int) : place l r ≤ l.length := by rw [place_eq]; exact List.countP_le_length
/-- The test behind the search tells whether r is in one of the runs. -/
theorem among_place : ∀ (l : List (Int × Int)) (r : Int), Rise l → (decide (place l r < l.length) && decide ((l[place l r]?.getD (0, 0)).1 ≤ r)) = among l r
  | [], r, _ => by simp [place_eq, among]
  | p :: l, r, h => by
    have hr := List.pairwise_cons.1 h.1
    by_cases hp : r ≤ p.2
    · have hz : l.countP (fun q => !decide (r ≤ q.2)) = 0 := by
        rw [List.countP_eq_zero]
        intro q hq
        have := hr.1 q hq
        have := h.2 q (List.mem_cons_of_mem _ hq)
        simp; omega
      have e : place (p :: l) r = 0 := by rw [place_eq, List.countP_cons, hz]; simp [hp]
      have hn : l.any (fun q => decide (q.1 ≤ r) && decide (r ≤ q.2)) = false := by
        rw [List.any_eq_false]
        intro q hq
        have := hr.1 q hq
        simp; omega
      rw [e, among, List.any_cons, hn]
      simp [hp]
    · have e : place (p :: l) r = place l r + 1 := by rw [place_eq, place_eq, List.countP_cons]; simp [hp]
      have ih := among_place l r h.tail
      rw [e]
      have e2 : among (p :: l) r = among l r := by simp [among, hp]
      rw [e2, ← ih]
      simp

/-- How many cells a rune takes. -/
def cells (r : Int) : Int := if r < 0 ∨ 1114111 < r ∨ among hid r = true then 0 else if among wid r = true then 2 else 1
theorem cells_bd (r : Int) : 0 ≤ cells r ∧ cells r ≤ 2 := by unfold cells; (repeat' split) <;> omega
def shown (r : Int) : Int := if cells r = 0 then 65533 else r
theorem place_mono {l : List (Int × Int)} (h : Rise l) (r : Int) : ∀ a b, a ≤ b → b < l.length → decide (r ≤ (l[a]?.getD (0, 0)).2) = true → decide (r ≤ (l[b]?.getD (0, 0)).2) = true := by
  intro a b hab hb ha
  rcases Nat.lt_or_ge a b with hlt | hge
  · have h1 := List.pairwise_iff_getElem.1 h.1 a b (by omega) hb hlt
    have h2 := h.2 l[b] (List.getElem_mem hb)
    simp only [List.getElem?_eq_getElem (show a < l.length by omega), List.getElem?_eq_getElem hb, Option.getD_some, decide_eq_true_eq] at ha ⊢
    omega
  · obtain rfl : a = b := by omega
    exact ha
end Go.Proofs.YtmemdhmjhckmaaaDoor
namespace Go.Proofs.YtmemdhmjhckmaaaDoor

/-- A cell. -/
structure Cl where
  r : Int
  w : Int
  fg : Int
  bo : Bool
  un : Bool
  iv : Bool
deriving DecidableEq
def blankC : Cl := ⟨32, 1, 0, false, false, false⟩
def halfC (c : Cl) : Cl := ⟨0, 0, c.fg, c.bo, c.un, c.iv⟩
def styC (c : Cl) : Bool := decide (0 ≤ c.fg ∧ c.fg ≤ 8)
def styE (c d : Cl) : Bool := decide (c.fg = d.fg) && (c.bo == d.bo) && (c.un == d.un) && (c.iv == d.iv)
/-- May a cell be, between its neighbors in the row? -/
def cellB (p : Option Cl) (c : Cl) (n : Option Cl) : Bool :=
  styC c && decide (0 ≤ c.w ∧ c.w ≤ 2) && (decide (c.w = 0) || decide (cells c.r = c.w)) && (decide (c.w ≠ 2) || n.any fun d => decide (d.w = 0)) && (decide (c.w ≠ 0) || p.any fun d => decide (d.w = 2) && decide (c.r = 0) && styE c d)
def okFrom (p : Option Cl) : List Cl → Bool
  | [] => true
  | c :: t => cellB p c t.head? && okFrom (some c) t
/-- The program's way: rune by rune. -/
def rowB : List Cl → Bool
  | [] => true
  | [c] => decide (c.w = 1) && decide (cells c.r = 1) && styC c
  | c :: d :: t => if c.w = 1 then decide (cells c.r = 1) && styC c && rowB (d :: t) else if c.w = 2 then decide (cells c.r = 2) && styC c && decide (d = halfC c) && rowB t else false
theorem half_iff (c d : Cl) : d = halfC c ↔ d.w = 0 ∧ d.r = 0 ∧ styE d c = true := by
  obtain ⟨r, w, fg, bo, un, iv⟩ := d
  simp only [halfC, styE, Cl.mk.injEq, Bool.and_eq_true, decide_eq_true_eq, beq_iff_eq]
  constructor
  · rintro ⟨a, b, c, d, e, f⟩; exact ⟨b, a, ⟨⟨c, d⟩, e⟩, f⟩
  · rintro ⟨b, a, ⟨⟨c, d⟩, e⟩, f⟩; exact ⟨a, b, c, d, e, f⟩
theorem sty_eq {c d : Cl} (h : styE d c = true) : styC d = styC c := by
  simp only [styE, Bool.and_eq_true, decide_eq_true_eq] at h
  unfold styC
  rw [h.1.1.1]
theorem cell_1 {p n : Option Cl} {c : Cl} (h : c.w = 1) : cellB p c n = (decide (cells c.r = 1) && styC c) := by
  unfold cellB
  rw [h]
  cases styC c <;> simp
theorem cell_2 {p n : Option Cl} {c : Cl} (h : c.w = 2) : cellB p c n = (decide (cells c.r = 2) && styC c && n.any fun d => decide (d.w = 0)) := by
  unfold cellB
  rw [h]
  cases styC c <;> simp
theorem cell_0 {p n : Option Cl} {c : Cl} (h : c.w = 0) : cellB p c n = (styC c && p.any fun d => decide (d.w = 2) && decide (c.r = 0) && styE c d) := by
  unfold cellB
  rw [h]
  cases styC c <;> simp
theorem cell_bad {p n : Option Cl} {c : Cl} (h : c.w < 0 ∨ 2 < c.w) : cellB p c n = false := by
  unfold cellB
  have : decide (0 ≤ c.w ∧ c.w ≤ 2) = false := by simp; omega
  rw [this]; simp
theorem row_ok : ∀ (l : List Cl) (p : Option Cl), (∀ d, p = some d → d.w ≠ 2) → rowB l = okFrom p l
  | [], p, hp => rfl
  | [c], p, hp => by
    simp only [rowB, okFrom, List.head?_nil, Bool.and_true]
    by_cases h1 : c.w = 1
    · rw [cell_1 h1, h1]; simp
    by_cases h2 : c.w = 2
    · rw [cell_2 h2, h2]; simp
    by_cases h0 : c.w = 0
    · rw [cell_0 h0, h0]
      cases p with
      | none => simp
      | some d => have := hp d rfl; simp [this]
    · rw [cell_bad (by omega)]; simp [h1]
  | c :: d :: t, p, hp => by
    rw [rowB, okFrom, List.head?_cons]
    by_cases h1 : c.w = 1
    · rw [if_pos h1, cell_1 h1, row_ok (d :: t) (some c) (fun e he => by injection he with he; subst he; omega)]
    rw [if_neg h1]
    by_cases h2 : c.w = 2
    · rw [if_pos h2, cell_2 h2, okFrom]
      simp only [Option.any_some]
      by_cases hd : d = halfC c
      · have h3 := (half_iff c d).1 hd
        rw [cell_0 h3.1, decide_eq_true hd, decide_eq_true h3.1, row_ok t (some d) (fun e he => by injection he with he; subst he; omega)]
        rw [sty_eq h3.2.2]
        simp only [Option.any_some, h2, h3.2.1, h3.2.2, decide_true, Bool.and_true]
        cases styC c <;> simp
      · rw [decide_eq_false hd]
        by_cases h3 : d.w = 0
        · have h4 : ¬ (d.r = 0 ∧ styE d c = true) := fun h => hd ((half_iff c d).2 ⟨h3, h⟩)
          rw [cell_0 h3]
          simp only [Option.any_some, h2, decide_true, Bool.true_and]
          have : (decide (d.r = 0) && styE d c) = false := by
            cases hs : styE d c
            · simp
            · simp; intro hr; exact h4 ⟨hr, hs⟩
          rw [this]; simp
        · rw [decide_eq_false h3]; simp
    rw [if_neg h2]
    by_cases h0 : c.w = 0
    · rw [cell_0 h0]
      cases p with
      | none => simp
      | some e => have := hp e rfl; simp [this]
    · rw [cell_bad (by omega)]; simp
/-- Cell by cell. -/
theorem okFrom_iff (p : Option Cl) (l : List Cl) : okFrom p l = true ↔ ∀ j c, l[j]? = some c → cellB (if j = 0 then p else l[j - 1]?) c l[j + 1]? = true := by
  induction l generalizing p with
  | nil => simp [okFrom]
  | cons a t ih =>
    rw [okFrom, Bool.and_eq_true, ih]
    constructor
    · rintro ⟨h1, h2⟩ j c hj
      cases j with
      | zero =>
        obtain rfl : a = c := by simpa using hj
        simp only [if_true, List.getElem?_cons_succ, Nat.zero_add]
        rw [← List.head?_eq_getElem?]; exact h1
      | succ j =>
        have h3 := h2 j c (by simpa using hj)
        rw [if_neg (by omega), Nat.add_sub_cancel, List.getElem?_cons_succ]
        cases j with
        | zero => simpa using h3
        | succ j => simpa using h3
    · intro h
      refine ⟨by have := h 0 a rfl; simp only [if_true, List.getElem?_cons_succ, Nat.zero_add] at this; rw [List.head?_eq_getElem?]; exact this, fun j c hj => ?_⟩
      have h3 := h (j + 1) c (by simpa using hj)
      rw [if_neg (by omega), Nat.add_sub_cancel, List.getElem?_cons_succ] at h3
      cases j with
      | zero => simpa using h3
      | succ j => simpa using h3
/-- A row of a screen. -/
def rowL (L : List Cl) (cols k : Nat) : List Cl := (L.drop (k * cols)).take cols
def validL (L : List Cl) (rows cols : Nat) : Bool := (List.range rows).all fun k => rowB (rowL L cols k)
/-- May the cell at a place be? -/
def okAt (L : List Cl) (cols i : Nat) (c : Cl) : Bool := cellB (if i % cols = 0 then none else L[i - 1]?) c (if i % cols = cols - 1 then none else L[i + 1]?)
theorem rowL_at {L : List Cl} {cols k j : Nat} (h : j < cols) : (rowL L cols k)[j]? = L[k * cols + j]? := by
  unfold rowL
  rw [List.getElem?_take_of_lt h, List.getElem?_drop]
theorem rowL_end {L : List Cl} {cols k j : Nat} (h : cols ≤ j) : (rowL L cols k)[j]? = none := by
  unfold rowL
  exact List.getElem?_take_eq_none h
theorem row_cells (L : List Cl) (cols k : Nat) (hc : 0 < cols) : rowB (rowL L cols k) = true ↔ ∀ j c, j < cols → L[k * cols + j]? = some c → okAt L cols (k * cols + j) c = true := by
  rw [row_ok _ none (fun d h => by cases h), okFrom_iff]
  have key : ∀ j c, j < cols → (cellB (if j = 0 then none else (rowL L cols k)[j - 1]?) c (rowL L cols k)[j + 1]? = okAt L cols (k * cols + j) c) := by
    intro j c hj
    unfold okAt
    have e : (k * cols + j) % cols = j := by rw [Nat.mul_comm, Nat.mul_add_mod, Nat.mod_eq_of_lt hj]
    rw [e]
    congr 1
    · by_cases h0 : j = 0
      · rw [if_pos h0, if_pos h0]
      · rw [if_neg h0, if_neg h0, rowL_at (by omega), show k * cols + j - 1 = k * cols + (j - 1) by omega]
    · by_cases h1 : j = cols - 1
      · rw [if_pos h1, rowL_end (by omega)]
      · rw [if_neg h1, rowL_at (by omega)]; rfl
  constructor
  · intro h j c hj hl
    rw [← key j c hj]
    exact h j c (by rw [rowL_at hj]; exact hl)
  · intro h j c hl
    by_cases hj : j < cols
    · rw [key j c hj]
      exact h j c hj (by rw [← rowL_at hj]; exact hl)
    · rw [rowL_end (by omega)] at hl; cases hl
/-- The two ways agree. -/
theorem valid_cells (L : List Cl) (rows cols : Nat) (hc : 0 < cols) (hL : L.length = rows * cols) : validL L rows cols = true ↔ ∀ i c, L[i]? = some c → okAt L cols i c = true := by
  unfold validL
  rw [List.all_eq_true]
  constructor
  · intro h i c hi
    have hlt := (List.getElem?_eq_some_iff.1 hi).1
    have hk : i / cols < rows := by rw [Nat.div_lt_iff_lt_mul hc, ← hL]; exact hlt
    have h2 := (row_cells L cols (i / cols) hc).1 (h _ (List.mem_range.2 hk)) (i % cols) c (Nat.mod_lt _ hc)
    rw [show i / cols * cols + i % cols = i by rw [Nat.mul_comm]; exact Nat.div_add_mod i cols] at h2
    exact h2 hi
  · intro h k hk
    rw [row_cells L cols k hc]
    exact fun j c hj hl => h _ c hl
def mayB (rows cols : Int) : Bool := decide (2 ≤ rows ∧ rows ≤ 100 ∧ 8 ≤ cols ∧ cols ≤ 200)
/-- A screen. -/
structure Fr where
  rows : Int
  cols : Int
  cs : List Cl
  row : Int
  col : Int
deriving DecidableEq
def noF : Fr := ⟨0, 0, [], 0, 0⟩
def curB (f : Fr) : Bool := decide (0 ≤ f.row ∧ f.row < f.rows ∧ 0 ≤ f.col ∧ f.col < f.cols)
def sizeB (f : Fr) : Bool := decide ((f.cs.length : Int) = f.rows * f.cols)
def validF (f : Fr) : Bool := mayB f.rows f.cols && sizeB f && curB f && validL f.cs f.rows.toNat f.cols.toNat
end Go.Proofs.YtmemdhmjhckmaaaDoor
