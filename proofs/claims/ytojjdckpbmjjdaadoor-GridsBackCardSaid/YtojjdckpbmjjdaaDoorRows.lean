/-
  NARROWER THAN 'FOR EVERY INPUT', by the rows' own cells (each row's printed sentence says how): GridsPut: laid · GridsRaw: laid · GridsResize: laid · GridsKeep: laid · GridsBack: laid · GridsSame: laid.
  DERIVED. THE GIVEN ROWS OF THIS SEAT. 6 by the template 'for every input the law returns true; each argument reads behind the call as it read before'; 0 by the template 'total and deterministic' (their statements: YtojjdckpbmjjdaaDoorTotals.lean).
  GIVEN WITH THE SEED: the statements are not yours to turn. If you find one false, say at which input.
  Laid BY PROGRAM, IN A SANDBOX (cutbox-rows.mjs): the forced cells as the released guide's own fill.sh prints them over the translation a624943ef277b02f… (all of the seat's roots in one cut). By AI agents, Wed Nov 11 2026. No macro, syntax, notation, axiom, sorry.
-/
import Derived.Test.YtojjdckpbmjjdaaDoorChecked
import GoSem.Claim
import GoSem.ClaimJoined
import GoSem.ClaimMapViews
import Derived.JoinedTies
import Derived.KernelRfl
namespace Go.Proofs.YtojjdckpbmjjdaaDoor
/- THE CELL 'sum', in the pinned program and in every row, IS THE sha256 OF THE DUMP (.gsa) THAT YtojjdckpbmjjdaaDoorProg.lean LOADS. Nothing in Lean hashes anything: it is a label: what it is worth is what the hold of that sum in a sandbox is worth. -/
noncomputable def Tryd.pinned : Pinned := { name := "ytojjdckpbmjjdaadoor", sum := "a624943ef277b02ff8cf268ff47e0978596b65acf5705e4e2921c03a8e2801d4", checked := Tryd.checked }
namespace Rows
def none {H : Type} : Left H := { results := [], args := [] }

/- WHAT THE LISTED PACKAGE-LEVEL VARIABLES READ AS WHEN THE CALL BEGINS. Each datum BY PROGRAM (the guide's laid-datum.mjs) off the statement by which the dump's own 'gosem.cut.vars' lays the variable. In a bare row this is a premise. The card (YtojjdckpbmjjdaaDoorCards.lean) ties it to the program's text. -/
def laid_limner_widths_hidden {H : Type} : DataW H := .agg [.agg [.lit (.int .i32 0), .lit (.int .i32 31)], .agg [.lit (.int .i32 127), .lit (.int .i32 159)], .agg [.lit (.int .i32 768), .lit (.int .i32 879)], .agg [.lit (.int .i32 8203), .lit (.int .i32 8207)], .agg [.lit (.int .i32 8232), .lit (.int .i32 8238)], .agg [.lit (.int .i32 55296), .lit (.int .i32 57343)], .agg [.lit (.int .i32 65024), .lit (.int .i32 65039)], .agg [.lit (.int .i32 65279), .lit (.int .i32 65279)]]
def laid_limner_widths_wide {H : Type} : DataW H := .agg [.agg [.lit (.int .i32 4352), .lit (.int .i32 4447)], .agg [.lit (.int .i32 11904), .lit (.int .i32 12350)], .agg [.lit (.int .i32 12353), .lit (.int .i32 13311)], .agg [.lit (.int .i32 13312), .lit (.int .i32 19903)], .agg [.lit (.int .i32 19968), .lit (.int .i32 40959)], .agg [.lit (.int .i32 40960), .lit (.int .i32 42191)], .agg [.lit (.int .i32 44032), .lit (.int .i32 55203)], .agg [.lit (.int .i32 63744), .lit (.int .i32 64255)], .agg [.lit (.int .i32 65072), .lit (.int .i32 65135)], .agg [.lit (.int .i32 65281), .lit (.int .i32 65376)], .agg [.lit (.int .i32 65504), .lit (.int .i32 65510)], .agg [.lit (.int .i32 127744), .lit (.int .i32 128591)], .agg [.lit (.int .i32 129280), .lit (.int .i32 129535)], .agg [.lit (.int .i32 131072), .lit (.int .i32 262141)]]
def laid_limner_grids_blank {H : Type} : DataW H := .agg [.lit (.int .i32 32), .lit (.int .i64 1), .agg [.lit (.int .i64 0), .lit (.bool false), .lit (.bool false), .lit (.bool false)]]

/-- 'limnerlaw06.GridsPut': WHATEVER THE INPUT: true; the input reads as it did. -/
def gridsPutSpec : ChangeSpec := { name := "gridsPut", fn := fun _ => fun
  | [d] => { results := [.lit (.bool true)], args := [d] }
  | _ => none }
def gridsPutRow : OpenClaim := { program := "ytojjdckpbmjjdaadoor", sum := "a624943ef277b02ff8cf268ff47e0978596b65acf5705e4e2921c03a8e2801d4", func := "limner/limnerlaw06.GridsPut", spec := "gridsPut", inPlace := ["internal/abi.NoEscape"], unfollowed := true, recurses := true, named := ["limner/grids.blank", "limner/widths.hidden", "limner/widths.wide"], apart := false, laid := [("limner/widths.hidden", laid_limner_widths_hidden), ("limner/widths.wide", laid_limner_widths_wide), ("limner/grids.blank", laid_limner_grids_blank)] }
def GridsPutSaid : Prop := gridsPutRow.holds Tryd.pinned (OpenSpec.ofChange gridsPutSpec)

/-- ITS FALSE NEIGHBOUR: 'it returns false'. Refute it at one input. -/
def gridsPutWrong : ChangeSpec := { name := "gridsPut", fn := fun _ => fun
  | [d] => { results := [.lit (.bool false)], args := [d] }
  | _ => none }
def GridsPutWrongFalsely : Prop := gridsPutRow.holds Tryd.pinned (OpenSpec.ofChange gridsPutWrong)

/-- 'limnerlaw06.GridsRaw': WHATEVER THE INPUT: true; the input reads as it did. -/
def gridsRawSpec : ChangeSpec := { name := "gridsRaw", fn := fun _ => fun
  | [d1, d2, d3] => { results := [.lit (.bool true)], args := [d1, d2, d3] }
  | _ => none }
def gridsRawRow : OpenClaim := { program := "ytojjdckpbmjjdaadoor", sum := "a624943ef277b02ff8cf268ff47e0978596b65acf5705e4e2921c03a8e2801d4", func := "limner/limnerlaw06.GridsRaw", spec := "gridsRaw", inPlace := ["internal/abi.NoEscape"], unfollowed := true, recurses := true, named := ["limner/grids.blank", "limner/widths.hidden", "limner/widths.wide"], apart := false, laid := [("limner/widths.hidden", laid_limner_widths_hidden), ("limner/widths.wide", laid_limner_widths_wide), ("limner/grids.blank", laid_limner_grids_blank)] }
def GridsRawSaid : Prop := gridsRawRow.holds Tryd.pinned (OpenSpec.ofChange gridsRawSpec)

/-- ITS FALSE NEIGHBOUR: 'it returns false'. Refute it at one input. -/
def gridsRawWrong : ChangeSpec := { name := "gridsRaw", fn := fun _ => fun
  | [d1, d2, d3] => { results := [.lit (.bool false)], args := [d1, d2, d3] }
  | _ => none }
def GridsRawWrongFalsely : Prop := gridsRawRow.holds Tryd.pinned (OpenSpec.ofChange gridsRawWrong)

/-- 'limnerlaw06.GridsResize': WHATEVER THE INPUT: true; the input reads as it did. -/
def gridsResizeSpec : ChangeSpec := { name := "gridsResize", fn := fun _ => fun
  | [d1, d2, d3] => { results := [.lit (.bool true)], args := [d1, d2, d3] }
  | _ => none }
def gridsResizeRow : OpenClaim := { program := "ytojjdckpbmjjdaadoor", sum := "a624943ef277b02ff8cf268ff47e0978596b65acf5705e4e2921c03a8e2801d4", func := "limner/limnerlaw06.GridsResize", spec := "gridsResize", inPlace := ["internal/abi.NoEscape"], unfollowed := true, recurses := true, named := ["limner/grids.blank", "limner/widths.hidden", "limner/widths.wide"], apart := false, laid := [("limner/widths.hidden", laid_limner_widths_hidden), ("limner/widths.wide", laid_limner_widths_wide), ("limner/grids.blank", laid_limner_grids_blank)] }
def GridsResizeSaid : Prop := gridsResizeRow.holds Tryd.pinned (OpenSpec.ofChange gridsResizeSpec)

/-- ITS FALSE NEIGHBOUR: 'it returns false'. Refute it at one input. -/
def gridsResizeWrong : ChangeSpec := { name := "gridsResize", fn := fun _ => fun
  | [d1, d2, d3] => { results := [.lit (.bool false)], args := [d1, d2, d3] }
  | _ => none }
def GridsResizeWrongFalsely : Prop := gridsResizeRow.holds Tryd.pinned (OpenSpec.ofChange gridsResizeWrong)

/-- 'limnerlaw06.GridsKeep': WHATEVER THE INPUT: true; the input reads as it did. -/
def gridsKeepSpec : ChangeSpec := { name := "gridsKeep", fn := fun _ => fun
  | [d1, d2, d3] => { results := [.lit (.bool true)], args := [d1, d2, d3] }
  | _ => none }
def gridsKeepRow : OpenClaim := { program := "ytojjdckpbmjjdaadoor", sum := "a624943ef277b02ff8cf268ff47e0978596b65acf5705e4e2921c03a8e2801d4", func := "limner/limnerlaw06.GridsKeep", spec := "gridsKeep", inPlace := ["internal/abi.NoEscape"], unfollowed := true, recurses := true, named := ["limner/grids.blank", "limner/widths.hidden", "limner/widths.wide"], apart := false, laid := [("limner/widths.hidden", laid_limner_widths_hidden), ("limner/widths.wide", laid_limner_widths_wide), ("limner/grids.blank", laid_limner_grids_blank)] }
def GridsKeepSaid : Prop := gridsKeepRow.holds Tryd.pinned (OpenSpec.ofChange gridsKeepSpec)

/-- ITS FALSE NEIGHBOUR: 'it returns false'. Refute it at one input. -/
def gridsKeepWrong : ChangeSpec := { name := "gridsKeep", fn := fun _ => fun
  | [d1, d2, d3] => { results := [.lit (.bool false)], args := [d1, d2, d3] }
  | _ => none }
def GridsKeepWrongFalsely : Prop := gridsKeepRow.holds Tryd.pinned (OpenSpec.ofChange gridsKeepWrong)

/-- 'limnerlaw06.GridsBack': WHATEVER THE INPUT: true; the input reads as it did. -/
def gridsBackSpec : ChangeSpec := { name := "gridsBack", fn := fun _ => fun
  | [d1, d2] => { results := [.lit (.bool true)], args := [d1, d2] }
  | _ => none }
def gridsBackRow : OpenClaim := { program := "ytojjdckpbmjjdaadoor", sum := "a624943ef277b02ff8cf268ff47e0978596b65acf5705e4e2921c03a8e2801d4", func := "limner/limnerlaw06.GridsBack", spec := "gridsBack", inPlace := ["internal/abi.NoEscape"], unfollowed := true, recurses := true, named := ["limner/grids.blank", "limner/widths.hidden", "limner/widths.wide"], apart := false, laid := [("limner/widths.hidden", laid_limner_widths_hidden), ("limner/widths.wide", laid_limner_widths_wide), ("limner/grids.blank", laid_limner_grids_blank)] }
def GridsBackSaid : Prop := gridsBackRow.holds Tryd.pinned (OpenSpec.ofChange gridsBackSpec)

/-- ITS FALSE NEIGHBOUR: 'it returns false'. Refute it at one input. -/
def gridsBackWrong : ChangeSpec := { name := "gridsBack", fn := fun _ => fun
  | [d1, d2] => { results := [.lit (.bool false)], args := [d1, d2] }
  | _ => none }
def GridsBackWrongFalsely : Prop := gridsBackRow.holds Tryd.pinned (OpenSpec.ofChange gridsBackWrong)

/-- 'limnerlaw06.GridsSame': WHATEVER THE INPUT: true; the input reads as it did. -/
def gridsSameSpec : ChangeSpec := { name := "gridsSame", fn := fun _ => fun
  | [d1, d2] => { results := [.lit (.bool true)], args := [d1, d2] }
  | _ => none }
def gridsSameRow : OpenClaim := { program := "ytojjdckpbmjjdaadoor", sum := "a624943ef277b02ff8cf268ff47e0978596b65acf5705e4e2921c03a8e2801d4", func := "limner/limnerlaw06.GridsSame", spec := "gridsSame", inPlace := ["internal/abi.NoEscape"], unfollowed := true, recurses := true, named := ["limner/grids.blank", "limner/widths.hidden", "limner/widths.wide"], apart := false, laid := [("limner/widths.hidden", laid_limner_widths_hidden), ("limner/widths.wide", laid_limner_widths_wide), ("limner/grids.blank", laid_limner_grids_blank)] }
def GridsSameSaid : Prop := gridsSameRow.holds Tryd.pinned (OpenSpec.ofChange gridsSameSpec)

/-- ITS FALSE NEIGHBOUR: 'it returns false'. Refute it at one input. -/
def gridsSameWrong : ChangeSpec := { name := "gridsSame", fn := fun _ => fun
  | [d1, d2] => { results := [.lit (.bool false)], args := [d1, d2] }
  | _ => none }
def GridsSameWrongFalsely : Prop := gridsSameRow.holds Tryd.pinned (OpenSpec.ofChange gridsSameWrong)

/- THE SECOND FORM. 'bulk': how many values and letters a reading holds, each counted each time it is reached (what is shared counts as often as it is met; a slice's spare places count too). A statement '..UptoSaid' is the law's where the arguments, and the package variables that the reading takes, are together of bulk at most 1048576: NARROWER than '..Said'. Prove '..Said' where nothing that the law and all that it calls make is longer than what came in: it says more and counts as full. Else prove '..UptoSaid'. A law counts once. -/
mutual
def uptoBulk {H : Type} : DataW H → Nat
  | .lit (.string bytes) => bytes.length + 1
  | .lit _ => 1
  | .nil => 1
  | .ptr d => uptoBulk d + 1
  | .slice elems spare => uptoBulkAll elems + uptoBulkAll spare + 1
  | .agg parts => uptoBulkAll parts + 1
  | .iface _ d => uptoBulk d + 1
  | .map entries => uptoBulkEntries entries + 1
  | .held _ => 1
def uptoBulkAll {H : Type} : List (DataW H) → Nat
  | [] => 0
  | d :: r => uptoBulk d + uptoBulkAll r
def uptoBulkEntries {H : Type} : List (Lit × DataW H) → Nat
  | [] => 0
  | x :: r => uptoBulkEntry x + uptoBulkEntries r
def uptoBulkEntry {H : Type} : Lit × DataW H → Nat
  | (.string bytes, d) => bytes.length + uptoBulk d + 1
  | (_, d) => uptoBulk d + 1
 end
def uptoSmall : (H : Type) → List (DataW H) → Bool := fun _ ds => decide (uptoBulkAll ds ≤ 1048576)
def OpenSpec.upto (s : _root_.Go.ChangeSpec) : _root_.Go.OpenSpec := { _root_.Go.OpenSpec.ofChange s with cond := some uptoSmall }

/-- 'limnerlaw06.GridsPut', WHERE WHAT IT READS IS OF BULK AT MOST 1048576: true; the input reads as it did. -/
def gridsPutUptoRow : OpenClaim := { program := "ytojjdckpbmjjdaadoor", sum := "a624943ef277b02ff8cf268ff47e0978596b65acf5705e4e2921c03a8e2801d4", func := "limner/limnerlaw06.GridsPut", spec := "gridsPut", inPlace := ["internal/abi.NoEscape"], unfollowed := true, recurses := true, named := ["limner/grids.blank", "limner/widths.hidden", "limner/widths.wide"], apart := false, laid := [("limner/widths.hidden", laid_limner_widths_hidden), ("limner/widths.wide", laid_limner_widths_wide), ("limner/grids.blank", laid_limner_grids_blank)], narrowed := true }
def GridsPutUptoSaid : Prop := gridsPutUptoRow.holds Tryd.pinned (OpenSpec.upto gridsPutSpec)

/-- 'limnerlaw06.GridsRaw', WHERE WHAT IT READS IS OF BULK AT MOST 1048576: true; the input reads as it did. -/
def gridsRawUptoRow : OpenClaim := { program := "ytojjdckpbmjjdaadoor", sum := "a624943ef277b02ff8cf268ff47e0978596b65acf5705e4e2921c03a8e2801d4", func := "limner/limnerlaw06.GridsRaw", spec := "gridsRaw", inPlace := ["internal/abi.NoEscape"], unfollowed := true, recurses := true, named := ["limner/grids.blank", "limner/widths.hidden", "limner/widths.wide"], apart := false, laid := [("limner/widths.hidden", laid_limner_widths_hidden), ("limner/widths.wide", laid_limner_widths_wide), ("limner/grids.blank", laid_limner_grids_blank)], narrowed := true }
def GridsRawUptoSaid : Prop := gridsRawUptoRow.holds Tryd.pinned (OpenSpec.upto gridsRawSpec)

/-- 'limnerlaw06.GridsResize', WHERE WHAT IT READS IS OF BULK AT MOST 1048576: true; the input reads as it did. -/
def gridsResizeUptoRow : OpenClaim := { program := "ytojjdckpbmjjdaadoor", sum := "a624943ef277b02ff8cf268ff47e0978596b65acf5705e4e2921c03a8e2801d4", func := "limner/limnerlaw06.GridsResize", spec := "gridsResize", inPlace := ["internal/abi.NoEscape"], unfollowed := true, recurses := true, named := ["limner/grids.blank", "limner/widths.hidden", "limner/widths.wide"], apart := false, laid := [("limner/widths.hidden", laid_limner_widths_hidden), ("limner/widths.wide", laid_limner_widths_wide), ("limner/grids.blank", laid_limner_grids_blank)], narrowed := true }
def GridsResizeUptoSaid : Prop := gridsResizeUptoRow.holds Tryd.pinned (OpenSpec.upto gridsResizeSpec)

/-- 'limnerlaw06.GridsKeep', WHERE WHAT IT READS IS OF BULK AT MOST 1048576: true; the input reads as it did. -/
def gridsKeepUptoRow : OpenClaim := { program := "ytojjdckpbmjjdaadoor", sum := "a624943ef277b02ff8cf268ff47e0978596b65acf5705e4e2921c03a8e2801d4", func := "limner/limnerlaw06.GridsKeep", spec := "gridsKeep", inPlace := ["internal/abi.NoEscape"], unfollowed := true, recurses := true, named := ["limner/grids.blank", "limner/widths.hidden", "limner/widths.wide"], apart := false, laid := [("limner/widths.hidden", laid_limner_widths_hidden), ("limner/widths.wide", laid_limner_widths_wide), ("limner/grids.blank", laid_limner_grids_blank)], narrowed := true }
def GridsKeepUptoSaid : Prop := gridsKeepUptoRow.holds Tryd.pinned (OpenSpec.upto gridsKeepSpec)

/-- 'limnerlaw06.GridsBack', WHERE WHAT IT READS IS OF BULK AT MOST 1048576: true; the input reads as it did. -/
def gridsBackUptoRow : OpenClaim := { program := "ytojjdckpbmjjdaadoor", sum := "a624943ef277b02ff8cf268ff47e0978596b65acf5705e4e2921c03a8e2801d4", func := "limner/limnerlaw06.GridsBack", spec := "gridsBack", inPlace := ["internal/abi.NoEscape"], unfollowed := true, recurses := true, named := ["limner/grids.blank", "limner/widths.hidden", "limner/widths.wide"], apart := false, laid := [("limner/widths.hidden", laid_limner_widths_hidden), ("limner/widths.wide", laid_limner_widths_wide), ("limner/grids.blank", laid_limner_grids_blank)], narrowed := true }
def GridsBackUptoSaid : Prop := gridsBackUptoRow.holds Tryd.pinned (OpenSpec.upto gridsBackSpec)

/-- 'limnerlaw06.GridsSame', WHERE WHAT IT READS IS OF BULK AT MOST 1048576: true; the input reads as it did. -/
def gridsSameUptoRow : OpenClaim := { program := "ytojjdckpbmjjdaadoor", sum := "a624943ef277b02ff8cf268ff47e0978596b65acf5705e4e2921c03a8e2801d4", func := "limner/limnerlaw06.GridsSame", spec := "gridsSame", inPlace := ["internal/abi.NoEscape"], unfollowed := true, recurses := true, named := ["limner/grids.blank", "limner/widths.hidden", "limner/widths.wide"], apart := false, laid := [("limner/widths.hidden", laid_limner_widths_hidden), ("limner/widths.wide", laid_limner_widths_wide), ("limner/grids.blank", laid_limner_grids_blank)], narrowed := true }
def GridsSameUptoSaid : Prop := gridsSameUptoRow.holds Tryd.pinned (OpenSpec.upto gridsSameSpec)

end Rows
end Go.Proofs.YtojjdckpbmjjdaaDoor
