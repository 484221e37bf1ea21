/- A range over a function, opened by hand: the iterator is called in the world where the loop's record lies; a call of yield is one round of the body. -/
import Derived.RangeFuncNested
import Derived.RangeFuncBound
import Derived.RangeFuncCalls
import Derived.RangeFuncLeaves
import Derived.Shelf.Abstract
import Derived.Shelf.RegionOpen
import Derived.WalkKit
import Derived.OwnWalkIn
import Derived.TacticsInMore
import Derived.LoopNIn
import Derived.LoopIn
namespace Go.Proofs.YtfamoikmfbpigaaDoor
open Go.RowKit Go.Shelf
variable {F : Fence} {n : Nat} {P : Program}

theorem range_open {g : Operand} {ps : Array Tmp} {assign body : Code} {Q : Exit → Act → World → Prop} {a : Act} {w : World} (hro : F.round = none) (h1 : 1 ≤ n) {gf : Nat} {lb : Array Value}
    (hg : a.eval g = .func (.func gf) #[] lb) (hF : F.fn gf) (eg : ∀ args w, (callFunc gf args).run P w = .ok (.enter gf args) w)
    (h : ∀ (fn : FuncId) (rec : LoopState → Option Code → Loop), F.fn fn → (rec = fun st pe => { state := st, pending := pe, fn, tmps := a.tmps, params := ps, assign, body, defers := w.heap.size }) →
      CallsIn F (n - 1) P gf (#[.func (.yield (w.heap.size + 1)) #[] #[]] ++ lb) ((w.alloc (.deferred (some []))).alloc (.loop (rec .ready none)))
        (rangePost F n P (w.heap.size + 1) Q { a with defers := { target := .collected w.heap.size, args := #[] } :: a.defers })) :
    (Code.rangeFunc g ps assign body).wpIn F n P Q a w := by
  refine wpIn_rangeFunc fun fn hfn => ?_
  rw [hro]
  have h9 := h fn _ hfn rfl
  have he := run_enterLoop_outer (P := P) (w := w) fn a.tmps ps assign body
  obtain ⟨W1, hW1⟩ : ∃ W1, (w.alloc (.deferred (some []))).alloc (.loop { state := .ready, pending := none, fn, tmps := a.tmps, params := ps, assign, body, defers := w.heap.size }) = W1 := ⟨_, rfl⟩
  rw [hW1] at he
  have h9 : CallsIn F (n - 1) P gf (#[.func (.yield (w.heap.size + 1)) #[] #[]] ++ lb) W1 (rangePost F n P (w.heap.size + 1) Q { a with defers := { target := .collected w.heap.size, args := #[] } :: a.defers }) := by rw [← hW1]; exact h9
  clear hW1 h
  refine ⟨w.heap.size + 1, [{ target := .collected w.heap.size, args := #[] }], W1, { target := .fn (.func gf) lb, args := #[.func (.yield (w.heap.size + 1)) #[] #[]] }, W1, gf, #[.func (.yield (w.heap.size + 1)) #[] #[]] ++ lb, W1, ?_, ?_, ?_, ?_, fun _ => h1, ?_⟩
  · exact he
  · simp only [resolve, hg]
    simp [go_sem]
  · intro f' hf'; simp [Target.leads] at hf'; subst hf'; exact hF
  · simp [invoke, go_sem, eg]
  · exact h9

theorem round_at {l : Nat} {r : Loop} {W : World} {tm : Array Value} {a1 : Act} {R : Ending → World → Prop} (h : W.heap[l]? = some (.loop r)) (hr : r.state = .ready) (hF : F.fn r.fn)
    (hassign : ∀ K : Act → World → Prop, K a1 W → r.assign.wpIn (F.inRound l) n P (Exit.then K (fun _ _ _ => False)) { tmps := tm, defers := [] } W)
    (hbody : r.body.wpIn (F.inRound l) n P (roundPost P l R) a1 (W.putObj l (.loop { r with state := .busy }))) :
    RoundIn F n P l r.fn tm r.assign r.body W R :=
  roundIn_of_wpIn hF (hassign _ ⟨_, run_beginRound h hr, hbody⟩)
theorem end_ex {l : Nat} {r : Loop} {pe : Option Code} {W : World} (h : W.heap[l]? = some (.loop r)) (hb : r.state ≠ .busy) (hp : r.pending = pe) : ∃ o', (Instr.endLoop l).run P W = .ok pe (W.putObj l o') := by
  subst hp
  exact ⟨_, run_endLoop h hb⟩
theorem round_end {l : Nat} {rec : LoopState → Option Code → Loop} {W : World} (hR : ∀ st pe st' pe', { rec st pe with state := st', pending := pe' } = rec st' pe') (h : W.heap[l]? = some (.loop (rec .busy none))) (jump : Option Code) :
    (Instr.endRound l jump).run P W = .ok (.bool jump.isNone) (W.putObj l (.loop (rec (if jump.isNone then .ready else .done) jump))) := by
  rw [run_endRound jump h, hR]
theorem rec_state {rec : LoopState → Option Code → Loop} (hR : ∀ st pe st' pe', { rec st pe with state := st', pending := pe' } = rec st' pe') (hP : ∀ st pe, (rec st pe).pending = pe ∧ (rec st pe).state = st) : { rec .ready none with state := .busy } = rec .busy none :=
  (congrArg (fun p => ({ rec .ready none with state := .busy, pending := p } : Loop)) (hP .ready none).1).trans (hR .ready none .busy none)
theorem putObj_box {W : World} {B l : Nat} {t : TypeId} {v : Value} {o o' : Obj} (h : Boxed W B t v) (hl : W.heap[l]? = some o) (ho : o.isCells = false) : Boxed (W.putObj l o') B t v := by
  refine (World.putObj_heap_other (fun e => ?_)).trans h
  subst e
  rw [show W.heap[B]? = _ from h] at hl
  cases hl; cases ho
end Go.Proofs.YtfamoikmfbpigaaDoor
