/- From the row's listed variable to the table that the contracts ask of the world; the wrap with both: the list, and the world's shape. -/
import Derived.Test.YtfamoikmfbpigaaDoorFrame
import Derived.Test.YtfamoikmfbpigaaDoorRdeep
import Derived.Test.YtfamoikmfbpigaaDoorCards
import Derived.Test.YtfamoikmfbpigaaDoorTie
import Derived.Lib.LaidU8
import Derived.Lib.LaidRTab
import Derived.PinnedBridge
import Derived.LaidMore
import Derived.Lay
import Derived.SevenTiedAt
import Derived.Stop.Joined
import Derived.Deep.Strs
import Derived.Handed
namespace Go.Proofs.YtfamoikmfbpigaaDoor
open Go.ChangeShapes Go.WideShapes Go.ChangeAt Go.RowKit Go.Lib

/-- The row's list of variables. -/
def laidList : List (String × DataW Unit) := [("limner/rules.table", Rows.laid_limner_rules_table)]

def ruleD (x : Rule) : DataW Unit := .agg [.lit (.string x.1), .lit (.int .i64 x.2.1), .lit (.int .i64 x.2.2)]
theorem tblData : (Rows.laid_limner_rules_table : DataW Unit) = .agg (tbl.map fun r => .slice (r.map ruleD) []) := by kernel_rfl
theorem tabName : Tryd.prog.globalNamed "limner/rules.table" = some 0 := by kernel_rfl
theorem tabType : (Tryd.prog.globals[0]?).map (·.type) = some 73 := by kernel_rfl
theorem cellsRow : Tryd.prog.cellsOf 70 = 1 := by kernel_rfl
theorem cellsRule : Tryd.prog.cellsOf 72 = 3 := by kernel_rfl
theorem cellsStr : Tryd.prog.cellsOf 9 = 1 := by kernel_rfl
theorem cellsInt : Tryd.prog.cellsOf 3 = 1 := by kernel_rfl
theorem tblLen : tbl.length = 3 := by decide +kernel
theorem rowPos : ∀ m, m < 3 → 0 < (rowN m).length := by
  intro m hm
  match m, hm with
  | 0, _ => decide +kernel
  | 1, _ => decide +kernel
  | 2, _ => decide +kernel

set_option maxRecDepth 100000 in
theorem rule_cells {w : World} {fuel : Nat} {cs : List Value} {x : Rule} {p : List MemPlace} (h : DataW.trod (fun _ => ()) Tryd.prog w 0 (fun _ => true) false fuel 72 cs = some (ruleD x, p)) :
    cs = [.string ⟨x.1.toArray⟩, .int .i64 x.2.1, .int .i64 x.2.2] := by
  obtain ⟨y0, y1, y2, n, hx, hl, h0, h1, h2⟩ := Go.Deep.trod_struct3 Tryd.underlying72 h
  rw [cellsRule] at hl
  match cs, hl with
  | [c0, c1, c2], _ =>
    simp [cellsStr, cellsInt] at h0 h1 h2
    obtain ⟨s, e0, f0, _⟩ := DataW.trod_string Tryd.underlying9 h0
    obtain ⟨z1, e1, f1, _⟩ := DataW.trod_int Tryd.underlying3 h1
    obtain ⟨z2, e2, f2, _⟩ := DataW.trod_int Tryd.underlying3 h2
    subst f0 f1 f2
    simp only [List.cons.injEq, and_true] at e0 e1 e2
    subst e0 e1 e2
    have hd := congrArg Prod.fst hx
    simp only [ruleD, DataW.agg.injEq, List.cons.injEq, DataW.lit.injEq, Lit.string.injEq, Lit.int.injEq, true_and, and_true] at hd
    obtain ⟨g0, g1, g2⟩ := hd
    rw [g0, g1, g2]

set_option maxRecDepth 100000 in
theorem rtab_of_met {W : World} {l : List (String × DataW Unit)} (h : laidMet Tryd.prog l W) (hin : ("limner/rules.table", Rows.laid_limner_rules_table) ∈ l) : RTab W := by
  have r := laidMet.reads h (n := "limner/rules.table") (d := Rows.laid_limner_rules_table) hin
  rw [tblData] at r
  obtain ⟨g', t', cs, fuel, p, hg, hty, hvar, hd⟩ := r
  obtain rfl := Option.some.inj (tabName.symm.trans hg)
  obtain rfl := Option.some.inj (tabType.symm.trans hty)
  intro m hm
  obtain ⟨fuel', d, q, hdi, he⟩ := array_elem Tryd.underlying73 hd m hm
  have hml : m < tbl.length := by rw [tblLen]; exact hm
  have hrow : tbl[m]? = some (rowN m) := by rw [rowN, List.getElem?_eq_getElem hml]; rfl
  rw [List.getElem?_map, hrow] at hdi
  obtain rfl := Option.some.inj hdi
  rw [cellsRow, Nat.mul_one] at he
  have hpos := rowPos m hm
  rcases DataW.trod_slice Tryd.underlying70 he with ⟨_, hx⟩ | ⟨a, len, cap, el, rs, k, _, hcs, hx, _, hlc, _, hel, helem, _, _⟩
  · exact absurd (congrArg Prod.fst hx) (by simp)
  · have eE : (rowN m).map ruleD = el.map (·.1) := by
      have := congrArg Prod.fst hx
      simp only [DataW.slice.injEq] at this
      exact this.1
    have hlen : len = (rowN m).length := by
      have := congrArg List.length eE
      simp at this
      omega
    subst hlen
    have hrange : ∀ i, i < (rowN m).length → ∀ j, j < 3 → W.cell? ((a.add (i * 3)).add j) = ([.string ⟨(ruleN m i).1.toArray⟩, .int .i64 (ruleN m i).2.1, .int .i64 (ruleN m i).2.2] : List Value)[j]? := by
      intro i hi j hj
      have h1 := helem i hi
      rw [cellsRule] at h1
      obtain ⟨b, hb⟩ : ∃ b, el[i]? = some b := ⟨el[i]'(by omega), List.getElem?_eq_getElem (by omega)⟩
      rw [hb] at h1
      obtain ⟨ce, hce, hte⟩ := Option.bind_eq_some_iff.1 h1
      have hb1 : b.1 = ruleD (ruleN m i) := by
        have h2 := congrArg (·[i]?) eE
        simp only [List.getElem?_map, hb, Option.map_some, List.getElem?_eq_getElem hi, Option.some.injEq] at h2
        rw [← h2, ruleN, List.getElem?_eq_getElem hi]; rfl
      have hcs := rule_cells (p := b.2) (by rw [← hb1]; exact hte)
      obtain ⟨_, _, hcc⟩ := World.cells?_some hce
      rw [hcc j hj, hcs]
    obtain ⟨R, o, sR⟩ := a
    obtain rfl : sR = none := by
      have h00 := hrange 0 hpos 0 (by omega)
      have : (Addr.add (Addr.add ⟨R, o, sR⟩ (0 * 3)) 0) = ⟨R, o, sR⟩ := by simp [Addr.add]
      rw [this] at h00
      exact cell_spot h00
    refine ⟨R, o, cap, ?_, fun i hi => ?_⟩
    · rw [World.var?_cell hg hvar m, ← Array.getElem?_toList]
      exact at_of_take hcs
    · have k0 := hrange i hi 0 (by omega)
      have k1 := hrange i hi 1 (by omega)
      have k2 := hrange i hi 2 (by omega)
      rw [Addr.add_lit, Addr.add_lit] at k0 k1 k2
      exact ⟨by simpa using k0, by simpa using k1, by simpa using k2⟩

theorem rtab_of_laid {W : World} (h : laidMetH Tryd.prog laidList W) : RTab W := by
  rw [MakeChecks.laidMetH_plain _ _ _ (by kernel_rfl)] at h
  exact rtab_of_met h (by simp [laidList])
/-- The library's own variable, out of the world's shape. -/
theorem mtab_of_shaped {W : World} (h : W.ShapedOpen Tryd.prog) : MTab W := Tryd.laysM219.s1_3 W h

section
variable {H : Type} {enc : TypeId × Value → H}
/-- The wrap with a condition beside, and the world's shape. -/
theorem returns_and_shaped {a : Assume} {C : Checked} {os : Os} {f : FuncId} {fn : Func} {s : ChangeSpec} {conds : List PathCond} {apart fresh handsOn again : Bool} {X : World → Array Value → Prop}
    (hX : ∀ (w w' : World) (args : Array Value), w.heap = w'.heap → X w args → X w' args)
    (own : ownKnob C.prog.godebug = none) (started : os.Started) (noInit : C.prog.inits.idxOf? f = none) (hfn : C.prog.funcs[f]? = some fn)
    (witness : ∃ (w : World) (tape : Tape) (i : Input), w.os = os ∧ (w.forCall tape i).Shaped C.prog ∧ i.vars = [] ∧ Input.okWide C.prog (w.forCall tape i) .any w.heap.size f i ∧
      ((s.pre enc C.prog fn conds apart (w.forCall tape i).memory i.args ∧ X (w.forCall tape i).memory i.args) ∧ sizedMet enc C.prog fn (OpenSpec.ofChange s) apart (w.forCall tape i).memory i.args) ∧ a.holds C.prog (lone (Frame.enter C.prog f i.args .normal) [] (w.forCall tape i)))
    (contract : ∀ (W : World) (base : Nat) (args : Array Value) (ds gs : List (DataW H)) (before : List MemPlace),
      (∀ (j : Nat) t v, fn.params[j]? = some t → args[j]? = some v → Value.okWide C.prog W .any base t v) →
      DataW.Whole enc C.prog fn.params.toList s.vars apart W args.toList ds gs before →
      conds.all (PathCond.test C.prog ⟨fn.params.toList, ds, s.plain.varTypes C.prog, gs⟩) = true →
      (DataW.weightsEach C.prog (fn.params.toList ++ s.plain.varTypes C.prog) (ds ++ gs)).all (· ≤ reachBytes) = true → X W args → W.ShapedOpen C.prog →
      a.holds C.prog (lone (Frame.enter C.prog f args .normal) [] W) →
      Calls C.prog f args W fun e W' => ∃ v, e = .returned v ∧ s.post enc C.prog fn apart fresh handsOn again W args v W') :
    ReturnsInHanded a C os f .any (fun w args => (s.pre enc C.prog fn conds apart w args ∧ X w args) ∧ sizedMet enc C.prog fn (OpenSpec.ofChange s) apart w args) (s.post enc C.prog fn apart fresh handsOn again) := by
  refine returnsInHanded_of_calls own started noInit witness ?_
  intro w tape i _ hsh _ hok hpre hholds
  obtain ⟨_, _, _, fn', hfn', _, _, _, _, hval⟩ := hok
  have e : fn' = fn := Option.some.inj (hfn'.symm.trans hfn)
  subst e
  obtain ⟨⟨⟨ds, gs, before, hw, hc⟩, hx⟩, hz⟩ := hpre
  have hw' := DataW.Whole.of_heap (w' := w.forCall tape i) (by rfl) hw
  refine (contract (w.forCall tape i) w.heap.size i.args ds gs before hval hw' hc (hz.weights hw) (hX _ _ _ (by rfl) hx) hsh hholds).mono fun e W' ⟨v, he, hp⟩ => ?_
  subst he
  exact ChangeSpec.post_blind hp
end
end Go.Proofs.YtfamoikmfbpigaaDoor
