/-
  NARROWER THAN 'FOR EVERY INPUT', by the rows' own cells (each row's printed sentence says how): LayoutValid: laid · LayoutPlain: laid.
  DERIVED. THE GIVEN ROWS OF THIS SEAT. 2 by the template 'for every input the law returns true; each argument reads behind the call as it read before'; 0 by the template 'total and deterministic' (their statements: YtmpajkfbiocmiaaDoorTotals.lean).
  GIVEN WITH THE SEED: the statements are not yours to turn. If you find one false, say at which input.
  Laid BY PROGRAM, IN A SANDBOX (cutbox-rows.mjs): the forced cells as the released guide's own fill.sh prints them over the translation 00923b3a960be36d… (all of the seat's roots in one cut). By AI agents, Wed Nov 11 2026. No macro, syntax, notation, axiom, sorry.
-/
import Derived.Test.YtmpajkfbiocmiaaDoorChecked
import GoSem.PinnedTables
import GoSem.Claim
import GoSem.ClaimJoined
import GoSem.ClaimMapViews
import Derived.JoinedTies
import Derived.KernelRfl
namespace Go.Proofs.YtmpajkfbiocmiaaDoor
/- THE CELL 'sum', in the pinned program and in every row, IS THE sha256 OF THE DUMP (.gsa) THAT YtmpajkfbiocmiaaDoorProg.lean LOADS. Nothing in Lean hashes anything: it is a label: what it is worth is what the hold of that sum in a sandbox is worth. -/
noncomputable def Tryd.pinned : Pinned := { name := "ytmpajkfbiocmiaadoor", sum := "00923b3a960be36dd24e14dd08bf2319aa7381a16c386840f3d33fc87e13290b", checked := Tryd.checked }
namespace Rows
def none {H : Type} : Left H := { results := [], args := [] }

/- WHAT THE LISTED PACKAGE-LEVEL VARIABLES READ AS WHEN THE CALL BEGINS. Each datum BY PROGRAM (the guide's laid-datum.mjs) off the statement by which the dump's own 'gosem.cut.vars' lays the variable. In a bare row this is a premise. The card (YtmpajkfbiocmiaaDoorCards.lean) ties it to the program's text. -/
def laid_unicode_utf8_acceptRanges {H : Type} : DataW H := .agg [.agg [.lit (.int .u8 128), .lit (.int .u8 191)], .agg [.lit (.int .u8 160), .lit (.int .u8 191)], .agg [.lit (.int .u8 128), .lit (.int .u8 159)], .agg [.lit (.int .u8 144), .lit (.int .u8 191)], .agg [.lit (.int .u8 128), .lit (.int .u8 143)], .agg [.lit (.int .u8 0), .lit (.int .u8 0)], .agg [.lit (.int .u8 0), .lit (.int .u8 0)], .agg [.lit (.int .u8 0), .lit (.int .u8 0)], .agg [.lit (.int .u8 0), .lit (.int .u8 0)], .agg [.lit (.int .u8 0), .lit (.int .u8 0)], .agg [.lit (.int .u8 0), .lit (.int .u8 0)], .agg [.lit (.int .u8 0), .lit (.int .u8 0)], .agg [.lit (.int .u8 0), .lit (.int .u8 0)], .agg [.lit (.int .u8 0), .lit (.int .u8 0)], .agg [.lit (.int .u8 0), .lit (.int .u8 0)], .agg [.lit (.int .u8 0), .lit (.int .u8 0)]]
def laid_limner_widths_hidden {H : Type} : DataW H := .agg [.agg [.lit (.int .i32 0), .lit (.int .i32 31)], .agg [.lit (.int .i32 127), .lit (.int .i32 159)], .agg [.lit (.int .i32 768), .lit (.int .i32 879)], .agg [.lit (.int .i32 8203), .lit (.int .i32 8207)], .agg [.lit (.int .i32 8232), .lit (.int .i32 8238)], .agg [.lit (.int .i32 55296), .lit (.int .i32 57343)], .agg [.lit (.int .i32 65024), .lit (.int .i32 65039)], .agg [.lit (.int .i32 65279), .lit (.int .i32 65279)]]
def laid_limner_widths_wide {H : Type} : DataW H := .agg [.agg [.lit (.int .i32 4352), .lit (.int .i32 4447)], .agg [.lit (.int .i32 11904), .lit (.int .i32 12350)], .agg [.lit (.int .i32 12353), .lit (.int .i32 13311)], .agg [.lit (.int .i32 13312), .lit (.int .i32 19903)], .agg [.lit (.int .i32 19968), .lit (.int .i32 40959)], .agg [.lit (.int .i32 40960), .lit (.int .i32 42191)], .agg [.lit (.int .i32 44032), .lit (.int .i32 55203)], .agg [.lit (.int .i32 63744), .lit (.int .i32 64255)], .agg [.lit (.int .i32 65072), .lit (.int .i32 65135)], .agg [.lit (.int .i32 65281), .lit (.int .i32 65376)], .agg [.lit (.int .i32 65504), .lit (.int .i32 65510)], .agg [.lit (.int .i32 127744), .lit (.int .i32 128591)], .agg [.lit (.int .i32 129280), .lit (.int .i32 129535)], .agg [.lit (.int .i32 131072), .lit (.int .i32 262141)]]
def laid_limner_grids_blank {H : Type} : DataW H := .agg [.lit (.int .i32 32), .lit (.int .i64 1), .agg [.lit (.int .i64 0), .lit (.bool false), .lit (.bool false), .lit (.bool false)]]
def laid_limner_layout_blank {H : Type} : DataW H := .agg [.lit (.int .i32 32), .lit (.int .i64 1), .agg [.lit (.int .i64 0), .lit (.bool false), .lit (.bool false), .lit (.bool false)]]
/-- One of Go's own tables, pinned by name: the form's constant. -/
def laid_unicode_utf8_first : DataW Unit := Go.Pinned.utf8First

/-- 'limnerlaw25.LayoutValid': WHATEVER THE INPUT: true; the input reads as it did. -/
def layoutValidSpec : ChangeSpec := { name := "layoutValid", fn := fun _ => fun
  | [d1, d2, d3] => { results := [.lit (.bool true)], args := [d1, d2, d3] }
  | _ => none }
def layoutValidRow : OpenClaim := { program := "ytmpajkfbiocmiaadoor", sum := "00923b3a960be36dd24e14dd08bf2319aa7381a16c386840f3d33fc87e13290b", func := "limner/limnerlaw25.LayoutValid", spec := "layoutValid", inPlace := ["internal/abi.NoEscape"], unfollowed := true, recurses := true, named := ["limner/grids.blank", "limner/layout.blank", "limner/widths.hidden", "limner/widths.wide", "unicode/utf8.first", "unicode/utf8.acceptRanges"], apart := false, laid := [("unicode/utf8.acceptRanges", laid_unicode_utf8_acceptRanges), ("limner/widths.hidden", laid_limner_widths_hidden), ("limner/widths.wide", laid_limner_widths_wide), ("limner/grids.blank", laid_limner_grids_blank), ("limner/layout.blank", laid_limner_layout_blank), ("unicode/utf8.first", laid_unicode_utf8_first)] }
def LayoutValidSaid : Prop := layoutValidRow.holds Tryd.pinned (OpenSpec.ofChange layoutValidSpec)

/-- ITS FALSE NEIGHBOUR: 'it returns false'. Refute it at one input. -/
def layoutValidWrong : ChangeSpec := { name := "layoutValid", fn := fun _ => fun
  | [d1, d2, d3] => { results := [.lit (.bool false)], args := [d1, d2, d3] }
  | _ => none }
def LayoutValidWrongFalsely : Prop := layoutValidRow.holds Tryd.pinned (OpenSpec.ofChange layoutValidWrong)

/-- 'limnerlaw25.LayoutPlain': WHATEVER THE INPUT: true; the input reads as it did. -/
def layoutPlainSpec : ChangeSpec := { name := "layoutPlain", fn := fun _ => fun
  | [d1, d2, d3] => { results := [.lit (.bool true)], args := [d1, d2, d3] }
  | _ => none }
def layoutPlainRow : OpenClaim := { program := "ytmpajkfbiocmiaadoor", sum := "00923b3a960be36dd24e14dd08bf2319aa7381a16c386840f3d33fc87e13290b", func := "limner/limnerlaw25.LayoutPlain", spec := "layoutPlain", inPlace := ["internal/abi.NoEscape"], unfollowed := true, recurses := true, named := ["limner/grids.blank", "limner/layout.blank", "limner/widths.hidden", "limner/widths.wide", "unicode/utf8.first", "unicode/utf8.acceptRanges"], apart := false, laid := [("unicode/utf8.acceptRanges", laid_unicode_utf8_acceptRanges), ("limner/widths.hidden", laid_limner_widths_hidden), ("limner/widths.wide", laid_limner_widths_wide), ("limner/grids.blank", laid_limner_grids_blank), ("limner/layout.blank", laid_limner_layout_blank), ("unicode/utf8.first", laid_unicode_utf8_first)] }
def LayoutPlainSaid : Prop := layoutPlainRow.holds Tryd.pinned (OpenSpec.ofChange layoutPlainSpec)

/-- ITS FALSE NEIGHBOUR: 'it returns false'. Refute it at one input. -/
def layoutPlainWrong : ChangeSpec := { name := "layoutPlain", fn := fun _ => fun
  | [d1, d2, d3] => { results := [.lit (.bool false)], args := [d1, d2, d3] }
  | _ => none }
def LayoutPlainWrongFalsely : Prop := layoutPlainRow.holds Tryd.pinned (OpenSpec.ofChange layoutPlainWrong)

/- THE SECOND FORM. 'bulk': how many values and letters a reading holds, each counted each time it is reached (what is shared counts as often as it is met; a slice's spare places count too). A statement '..UptoSaid' is the law's where the arguments, and the package variables that the reading takes, are together of bulk at most 1048576: NARROWER than '..Said'. Prove '..Said' where nothing that the law and all that it calls make is longer than what came in: it says more and counts as full. Else prove '..UptoSaid'. A law counts once. -/
mutual
def uptoBulk {H : Type} : DataW H → Nat
  | .lit (.string bytes) => bytes.length + 1
  | .lit _ => 1
  | .nil => 1
  | .ptr d => uptoBulk d + 1
  | .slice elems spare => uptoBulkAll elems + uptoBulkAll spare + 1
  | .agg parts => uptoBulkAll parts + 1
  | .iface _ d => uptoBulk d + 1
  | .map entries => uptoBulkEntries entries + 1
  | .held _ => 1
def uptoBulkAll {H : Type} : List (DataW H) → Nat
  | [] => 0
  | d :: r => uptoBulk d + uptoBulkAll r
def uptoBulkEntries {H : Type} : List (Lit × DataW H) → Nat
  | [] => 0
  | x :: r => uptoBulkEntry x + uptoBulkEntries r
def uptoBulkEntry {H : Type} : Lit × DataW H → Nat
  | (.string bytes, d) => bytes.length + uptoBulk d + 1
  | (_, d) => uptoBulk d + 1
 end
def uptoSmall : (H : Type) → List (DataW H) → Bool := fun _ ds => decide (uptoBulkAll ds ≤ 1048576)
def OpenSpec.upto (s : _root_.Go.ChangeSpec) : _root_.Go.OpenSpec := { _root_.Go.OpenSpec.ofChange s with cond := some uptoSmall }

/-- 'limnerlaw25.LayoutValid', WHERE WHAT IT READS IS OF BULK AT MOST 1048576: true; the input reads as it did. -/
def layoutValidUptoRow : OpenClaim := { program := "ytmpajkfbiocmiaadoor", sum := "00923b3a960be36dd24e14dd08bf2319aa7381a16c386840f3d33fc87e13290b", func := "limner/limnerlaw25.LayoutValid", spec := "layoutValid", inPlace := ["internal/abi.NoEscape"], unfollowed := true, recurses := true, named := ["limner/grids.blank", "limner/layout.blank", "limner/widths.hidden", "limner/widths.wide", "unicode/utf8.first", "unicode/utf8.acceptRanges"], apart := false, laid := [("unicode/utf8.acceptRanges", laid_unicode_utf8_acceptRanges), ("limner/widths.hidden", laid_limner_widths_hidden), ("limner/widths.wide", laid_limner_widths_wide), ("limner/grids.blank", laid_limner_grids_blank), ("limner/layout.blank", laid_limner_layout_blank), ("unicode/utf8.first", laid_unicode_utf8_first)], narrowed := true }
def LayoutValidUptoSaid : Prop := layoutValidUptoRow.holds Tryd.pinned (OpenSpec.upto layoutValidSpec)

/-- 'limnerlaw25.LayoutPlain', WHERE WHAT IT READS IS OF BULK AT MOST 1048576: true; the input reads as it did. -/
def layoutPlainUptoRow : OpenClaim := { program := "ytmpajkfbiocmiaadoor", sum := "00923b3a960be36dd24e14dd08bf2319aa7381a16c386840f3d33fc87e13290b", func := "limner/limnerlaw25.LayoutPlain", spec := "layoutPlain", inPlace := ["internal/abi.NoEscape"], unfollowed := true, recurses := true, named := ["limner/grids.blank", "limner/layout.blank", "limner/widths.hidden", "limner/widths.wide", "unicode/utf8.first", "unicode/utf8.acceptRanges"], apart := false, laid := [("unicode/utf8.acceptRanges", laid_unicode_utf8_acceptRanges), ("limner/widths.hidden", laid_limner_widths_hidden), ("limner/widths.wide", laid_limner_widths_wide), ("limner/grids.blank", laid_limner_grids_blank), ("limner/layout.blank", laid_limner_layout_blank), ("unicode/utf8.first", laid_unicode_utf8_first)], narrowed := true }
def LayoutPlainUptoSaid : Prop := layoutPlainUptoRow.holds Tryd.pinned (OpenSpec.upto layoutPlainSpec)

end Rows
end Go.Proofs.YtmpajkfbiocmiaaDoor
