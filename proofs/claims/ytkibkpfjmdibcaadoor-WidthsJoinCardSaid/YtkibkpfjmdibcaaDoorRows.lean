/-
  NARROWER THAN 'FOR EVERY INPUT', by the rows' own cells (each row's printed sentence says how): WidthsOf: laid · WidthsText: laid · WidthsTab: laid · WidthsShown: laid · WidthsJoin: laid.
  DERIVED. THE GIVEN ROWS OF THIS SEAT. 5 by the template 'for every input the law returns true; each argument reads behind the call as it read before'; 0 by the template 'total and deterministic' (their statements: YtkibkpfjmdibcaaDoorTotals.lean).
  GIVEN WITH THE SEED: the statements are not yours to turn. If you find one false, say at which input.
  Laid BY PROGRAM, IN A SANDBOX (cutbox-rows.mjs): the forced cells as the released guide's own fill.sh prints them over the translation 72dcc1ed66668efe… (all of the seat's roots in one cut). By AI agents, Wed Nov 11 2026. No macro, syntax, notation, axiom, sorry.
-/
import Derived.Test.YtkibkpfjmdibcaaDoorChecked
import GoSem.PinnedTables
import GoSem.Claim
import GoSem.ClaimJoined
import GoSem.ClaimMapViews
import Derived.JoinedTies
import Derived.KernelRfl
namespace Go.Proofs.YtkibkpfjmdibcaaDoor
/- THE CELL 'sum', in the pinned program and in every row, IS THE sha256 OF THE DUMP (.gsa) THAT YtkibkpfjmdibcaaDoorProg.lean LOADS. Nothing in Lean hashes anything: it is a label: what it is worth is what the hold of that sum in a sandbox is worth. -/
noncomputable def Tryd.pinned : Pinned := { name := "ytkibkpfjmdibcaadoor", sum := "72dcc1ed66668efe00efd6c6ae3f8893c4976e289c4cd539fe430ffdfa5e6505", checked := Tryd.checked }
namespace Rows
def none {H : Type} : Left H := { results := [], args := [] }

/- WHAT THE LISTED PACKAGE-LEVEL VARIABLES READ AS WHEN THE CALL BEGINS. Each datum BY PROGRAM (the guide's laid-datum.mjs) off the statement by which the dump's own 'gosem.cut.vars' lays the variable. In a bare row this is a premise. The card (YtkibkpfjmdibcaaDoorCards.lean) ties it to the program's text. -/
def laid_unicode_utf8_acceptRanges {H : Type} : DataW H := .agg [.agg [.lit (.int .u8 128), .lit (.int .u8 191)], .agg [.lit (.int .u8 160), .lit (.int .u8 191)], .agg [.lit (.int .u8 128), .lit (.int .u8 159)], .agg [.lit (.int .u8 144), .lit (.int .u8 191)], .agg [.lit (.int .u8 128), .lit (.int .u8 143)], .agg [.lit (.int .u8 0), .lit (.int .u8 0)], .agg [.lit (.int .u8 0), .lit (.int .u8 0)], .agg [.lit (.int .u8 0), .lit (.int .u8 0)], .agg [.lit (.int .u8 0), .lit (.int .u8 0)], .agg [.lit (.int .u8 0), .lit (.int .u8 0)], .agg [.lit (.int .u8 0), .lit (.int .u8 0)], .agg [.lit (.int .u8 0), .lit (.int .u8 0)], .agg [.lit (.int .u8 0), .lit (.int .u8 0)], .agg [.lit (.int .u8 0), .lit (.int .u8 0)], .agg [.lit (.int .u8 0), .lit (.int .u8 0)], .agg [.lit (.int .u8 0), .lit (.int .u8 0)]]
def laid_limner_widths_hidden {H : Type} : DataW H := .agg [.agg [.lit (.int .i32 0), .lit (.int .i32 31)], .agg [.lit (.int .i32 127), .lit (.int .i32 159)], .agg [.lit (.int .i32 768), .lit (.int .i32 879)], .agg [.lit (.int .i32 8203), .lit (.int .i32 8207)], .agg [.lit (.int .i32 8232), .lit (.int .i32 8238)], .agg [.lit (.int .i32 55296), .lit (.int .i32 57343)], .agg [.lit (.int .i32 65024), .lit (.int .i32 65039)], .agg [.lit (.int .i32 65279), .lit (.int .i32 65279)]]
def laid_limner_widths_wide {H : Type} : DataW H := .agg [.agg [.lit (.int .i32 4352), .lit (.int .i32 4447)], .agg [.lit (.int .i32 11904), .lit (.int .i32 12350)], .agg [.lit (.int .i32 12353), .lit (.int .i32 13311)], .agg [.lit (.int .i32 13312), .lit (.int .i32 19903)], .agg [.lit (.int .i32 19968), .lit (.int .i32 40959)], .agg [.lit (.int .i32 40960), .lit (.int .i32 42191)], .agg [.lit (.int .i32 44032), .lit (.int .i32 55203)], .agg [.lit (.int .i32 63744), .lit (.int .i32 64255)], .agg [.lit (.int .i32 65072), .lit (.int .i32 65135)], .agg [.lit (.int .i32 65281), .lit (.int .i32 65376)], .agg [.lit (.int .i32 65504), .lit (.int .i32 65510)], .agg [.lit (.int .i32 127744), .lit (.int .i32 128591)], .agg [.lit (.int .i32 129280), .lit (.int .i32 129535)], .agg [.lit (.int .i32 131072), .lit (.int .i32 262141)]]
/-- One of Go's own tables, pinned by name: the form's constant. -/
def laid_unicode_utf8_first : DataW Unit := Go.Pinned.utf8First

/-- 'limnerlaw02.WidthsOf': WHATEVER THE INPUT: true; the input reads as it did. -/
def widthsOfSpec : ChangeSpec := { name := "widthsOf", fn := fun _ => fun
  | [d1, d2] => { results := [.lit (.bool true)], args := [d1, d2] }
  | _ => none }
def widthsOfRow : OpenClaim := { program := "ytkibkpfjmdibcaadoor", sum := "72dcc1ed66668efe00efd6c6ae3f8893c4976e289c4cd539fe430ffdfa5e6505", func := "limner/limnerlaw02.WidthsOf", spec := "widthsOf", unfollowed := true, recurses := true, named := ["limner/widths.hidden", "limner/widths.wide", "unicode/utf8.first", "unicode/utf8.acceptRanges"], apart := false, laid := [("unicode/utf8.acceptRanges", laid_unicode_utf8_acceptRanges), ("limner/widths.hidden", laid_limner_widths_hidden), ("limner/widths.wide", laid_limner_widths_wide), ("unicode/utf8.first", laid_unicode_utf8_first)] }
def WidthsOfSaid : Prop := widthsOfRow.holds Tryd.pinned (OpenSpec.ofChange widthsOfSpec)

/-- ITS FALSE NEIGHBOUR: 'it returns false'. Refute it at one input. -/
def widthsOfWrong : ChangeSpec := { name := "widthsOf", fn := fun _ => fun
  | [d1, d2] => { results := [.lit (.bool false)], args := [d1, d2] }
  | _ => none }
def WidthsOfWrongFalsely : Prop := widthsOfRow.holds Tryd.pinned (OpenSpec.ofChange widthsOfWrong)

/-- 'limnerlaw02.WidthsText': WHATEVER THE INPUT: true; the input reads as it did. -/
def widthsTextSpec : ChangeSpec := { name := "widthsText", fn := fun _ => fun
  | [d] => { results := [.lit (.bool true)], args := [d] }
  | _ => none }
def widthsTextRow : OpenClaim := { program := "ytkibkpfjmdibcaadoor", sum := "72dcc1ed66668efe00efd6c6ae3f8893c4976e289c4cd539fe430ffdfa5e6505", func := "limner/limnerlaw02.WidthsText", spec := "widthsText", unfollowed := true, recurses := true, named := ["limner/widths.hidden", "limner/widths.wide", "unicode/utf8.first", "unicode/utf8.acceptRanges"], apart := false, laid := [("unicode/utf8.acceptRanges", laid_unicode_utf8_acceptRanges), ("limner/widths.hidden", laid_limner_widths_hidden), ("limner/widths.wide", laid_limner_widths_wide), ("unicode/utf8.first", laid_unicode_utf8_first)] }
def WidthsTextSaid : Prop := widthsTextRow.holds Tryd.pinned (OpenSpec.ofChange widthsTextSpec)

/-- ITS FALSE NEIGHBOUR: 'it returns false'. Refute it at one input. -/
def widthsTextWrong : ChangeSpec := { name := "widthsText", fn := fun _ => fun
  | [d] => { results := [.lit (.bool false)], args := [d] }
  | _ => none }
def WidthsTextWrongFalsely : Prop := widthsTextRow.holds Tryd.pinned (OpenSpec.ofChange widthsTextWrong)

/-- 'limnerlaw02.WidthsTab': WHATEVER THE INPUT: true; the input reads as it did. -/
def widthsTabSpec : ChangeSpec := { name := "widthsTab", fn := fun _ => fun
  | [d] => { results := [.lit (.bool true)], args := [d] }
  | _ => none }
def widthsTabRow : OpenClaim := { program := "ytkibkpfjmdibcaadoor", sum := "72dcc1ed66668efe00efd6c6ae3f8893c4976e289c4cd539fe430ffdfa5e6505", func := "limner/limnerlaw02.WidthsTab", spec := "widthsTab", unfollowed := true, recurses := true, named := ["limner/widths.hidden", "limner/widths.wide", "unicode/utf8.first", "unicode/utf8.acceptRanges"], apart := false, laid := [("unicode/utf8.acceptRanges", laid_unicode_utf8_acceptRanges), ("limner/widths.hidden", laid_limner_widths_hidden), ("limner/widths.wide", laid_limner_widths_wide), ("unicode/utf8.first", laid_unicode_utf8_first)] }
def WidthsTabSaid : Prop := widthsTabRow.holds Tryd.pinned (OpenSpec.ofChange widthsTabSpec)

/-- ITS FALSE NEIGHBOUR: 'it returns false'. Refute it at one input. -/
def widthsTabWrong : ChangeSpec := { name := "widthsTab", fn := fun _ => fun
  | [d] => { results := [.lit (.bool false)], args := [d] }
  | _ => none }
def WidthsTabWrongFalsely : Prop := widthsTabRow.holds Tryd.pinned (OpenSpec.ofChange widthsTabWrong)

/-- 'limnerlaw02.WidthsShown': WHATEVER THE INPUT: true; the input reads as it did. -/
def widthsShownSpec : ChangeSpec := { name := "widthsShown", fn := fun _ => fun
  | [d] => { results := [.lit (.bool true)], args := [d] }
  | _ => none }
def widthsShownRow : OpenClaim := { program := "ytkibkpfjmdibcaadoor", sum := "72dcc1ed66668efe00efd6c6ae3f8893c4976e289c4cd539fe430ffdfa5e6505", func := "limner/limnerlaw02.WidthsShown", spec := "widthsShown", unfollowed := true, recurses := true, named := ["limner/widths.hidden", "limner/widths.wide", "unicode/utf8.first", "unicode/utf8.acceptRanges"], apart := false, laid := [("unicode/utf8.acceptRanges", laid_unicode_utf8_acceptRanges), ("limner/widths.hidden", laid_limner_widths_hidden), ("limner/widths.wide", laid_limner_widths_wide), ("unicode/utf8.first", laid_unicode_utf8_first)] }
def WidthsShownSaid : Prop := widthsShownRow.holds Tryd.pinned (OpenSpec.ofChange widthsShownSpec)

/-- ITS FALSE NEIGHBOUR: 'it returns false'. Refute it at one input. -/
def widthsShownWrong : ChangeSpec := { name := "widthsShown", fn := fun _ => fun
  | [d] => { results := [.lit (.bool false)], args := [d] }
  | _ => none }
def WidthsShownWrongFalsely : Prop := widthsShownRow.holds Tryd.pinned (OpenSpec.ofChange widthsShownWrong)

/-- 'limnerlaw02.WidthsJoin': WHATEVER THE INPUT: true; the input reads as it did. -/
def widthsJoinSpec : ChangeSpec := { name := "widthsJoin", fn := fun _ => fun
  | [d1, d2] => { results := [.lit (.bool true)], args := [d1, d2] }
  | _ => none }
def widthsJoinRow : OpenClaim := { program := "ytkibkpfjmdibcaadoor", sum := "72dcc1ed66668efe00efd6c6ae3f8893c4976e289c4cd539fe430ffdfa5e6505", func := "limner/limnerlaw02.WidthsJoin", spec := "widthsJoin", unfollowed := true, recurses := true, named := ["limner/widths.hidden", "limner/widths.wide", "unicode/utf8.first", "unicode/utf8.acceptRanges"], apart := false, laid := [("unicode/utf8.acceptRanges", laid_unicode_utf8_acceptRanges), ("limner/widths.hidden", laid_limner_widths_hidden), ("limner/widths.wide", laid_limner_widths_wide), ("unicode/utf8.first", laid_unicode_utf8_first)] }
def WidthsJoinSaid : Prop := widthsJoinRow.holds Tryd.pinned (OpenSpec.ofChange widthsJoinSpec)

/-- ITS FALSE NEIGHBOUR: 'it returns false'. Refute it at one input. -/
def widthsJoinWrong : ChangeSpec := { name := "widthsJoin", fn := fun _ => fun
  | [d1, d2] => { results := [.lit (.bool false)], args := [d1, d2] }
  | _ => none }
def WidthsJoinWrongFalsely : Prop := widthsJoinRow.holds Tryd.pinned (OpenSpec.ofChange widthsJoinWrong)

/- THE SECOND FORM. 'bulk': how many values and letters a reading holds, each counted each time it is reached (what is shared counts as often as it is met; a slice's spare places count too). A statement '..UptoSaid' is the law's where the arguments, and the package variables that the reading takes, are together of bulk at most 1048576: NARROWER than '..Said'. Prove '..Said' where nothing that the law and all that it calls make is longer than what came in: it says more and counts as full. Else prove '..UptoSaid'. A law counts once. -/
mutual
def uptoBulk {H : Type} : DataW H → Nat
  | .lit (.string bytes) => bytes.length + 1
  | .lit _ => 1
  | .nil => 1
  | .ptr d => uptoBulk d + 1
  | .slice elems spare => uptoBulkAll elems + uptoBulkAll spare + 1
  | .agg parts => uptoBulkAll parts + 1
  | .iface _ d => uptoBulk d + 1
  | .map entries => uptoBulkEntries entries + 1
  | .held _ => 1
def uptoBulkAll {H : Type} : List (DataW H) → Nat
  | [] => 0
  | d :: r => uptoBulk d + uptoBulkAll r
def uptoBulkEntries {H : Type} : List (Lit × DataW H) → Nat
  | [] => 0
  | x :: r => uptoBulkEntry x + uptoBulkEntries r
def uptoBulkEntry {H : Type} : Lit × DataW H → Nat
  | (.string bytes, d) => bytes.length + uptoBulk d + 1
  | (_, d) => uptoBulk d + 1
 end
def uptoSmall : (H : Type) → List (DataW H) → Bool := fun _ ds => decide (uptoBulkAll ds ≤ 1048576)
def OpenSpec.upto (s : _root_.Go.ChangeSpec) : _root_.Go.OpenSpec := { _root_.Go.OpenSpec.ofChange s with cond := some uptoSmall }

/-- 'limnerlaw02.WidthsOf', WHERE WHAT IT READS IS OF BULK AT MOST 1048576: true; the input reads as it did. -/
def widthsOfUptoRow : OpenClaim := { program := "ytkibkpfjmdibcaadoor", sum := "72dcc1ed66668efe00efd6c6ae3f8893c4976e289c4cd539fe430ffdfa5e6505", func := "limner/limnerlaw02.WidthsOf", spec := "widthsOf", unfollowed := true, recurses := true, named := ["limner/widths.hidden", "limner/widths.wide", "unicode/utf8.first", "unicode/utf8.acceptRanges"], apart := false, laid := [("unicode/utf8.acceptRanges", laid_unicode_utf8_acceptRanges), ("limner/widths.hidden", laid_limner_widths_hidden), ("limner/widths.wide", laid_limner_widths_wide), ("unicode/utf8.first", laid_unicode_utf8_first)], narrowed := true }
def WidthsOfUptoSaid : Prop := widthsOfUptoRow.holds Tryd.pinned (OpenSpec.upto widthsOfSpec)

/-- 'limnerlaw02.WidthsText', WHERE WHAT IT READS IS OF BULK AT MOST 1048576: true; the input reads as it did. -/
def widthsTextUptoRow : OpenClaim := { program := "ytkibkpfjmdibcaadoor", sum := "72dcc1ed66668efe00efd6c6ae3f8893c4976e289c4cd539fe430ffdfa5e6505", func := "limner/limnerlaw02.WidthsText", spec := "widthsText", unfollowed := true, recurses := true, named := ["limner/widths.hidden", "limner/widths.wide", "unicode/utf8.first", "unicode/utf8.acceptRanges"], apart := false, laid := [("unicode/utf8.acceptRanges", laid_unicode_utf8_acceptRanges), ("limner/widths.hidden", laid_limner_widths_hidden), ("limner/widths.wide", laid_limner_widths_wide), ("unicode/utf8.first", laid_unicode_utf8_first)], narrowed := true }
def WidthsTextUptoSaid : Prop := widthsTextUptoRow.holds Tryd.pinned (OpenSpec.upto widthsTextSpec)

/-- 'limnerlaw02.WidthsTab', WHERE WHAT IT READS IS OF BULK AT MOST 1048576: true; the input reads as it did. -/
def widthsTabUptoRow : OpenClaim := { program := "ytkibkpfjmdibcaadoor", sum := "72dcc1ed66668efe00efd6c6ae3f8893c4976e289c4cd539fe430ffdfa5e6505", func := "limner/limnerlaw02.WidthsTab", spec := "widthsTab", unfollowed := true, recurses := true, named := ["limner/widths.hidden", "limner/widths.wide", "unicode/utf8.first", "unicode/utf8.acceptRanges"], apart := false, laid := [("unicode/utf8.acceptRanges", laid_unicode_utf8_acceptRanges), ("limner/widths.hidden", laid_limner_widths_hidden), ("limner/widths.wide", laid_limner_widths_wide), ("unicode/utf8.first", laid_unicode_utf8_first)], narrowed := true }
def WidthsTabUptoSaid : Prop := widthsTabUptoRow.holds Tryd.pinned (OpenSpec.upto widthsTabSpec)

/-- 'limnerlaw02.WidthsShown', WHERE WHAT IT READS IS OF BULK AT MOST 1048576: true; the input reads as it did. -/
def widthsShownUptoRow : OpenClaim := { program := "ytkibkpfjmdibcaadoor", sum := "72dcc1ed66668efe00efd6c6ae3f8893c4976e289c4cd539fe430ffdfa5e6505", func := "limner/limnerlaw02.WidthsShown", spec := "widthsShown", unfollowed := true, recurses := true, named := ["limner/widths.hidden", "limner/widths.wide", "unicode/utf8.first", "unicode/utf8.acceptRanges"], apart := false, laid := [("unicode/utf8.acceptRanges", laid_unicode_utf8_acceptRanges), ("limner/widths.hidden", laid_limner_widths_hidden), ("limner/widths.wide", laid_limner_widths_wide), ("unicode/utf8.first", laid_unicode_utf8_first)], narrowed := true }
def WidthsShownUptoSaid : Prop := widthsShownUptoRow.holds Tryd.pinned (OpenSpec.upto widthsShownSpec)

/-- 'limnerlaw02.WidthsJoin', WHERE WHAT IT READS IS OF BULK AT MOST 1048576: true; the input reads as it did. -/
def widthsJoinUptoRow : OpenClaim := { program := "ytkibkpfjmdibcaadoor", sum := "72dcc1ed66668efe00efd6c6ae3f8893c4976e289c4cd539fe430ffdfa5e6505", func := "limner/limnerlaw02.WidthsJoin", spec := "widthsJoin", unfollowed := true, recurses := true, named := ["limner/widths.hidden", "limner/widths.wide", "unicode/utf8.first", "unicode/utf8.acceptRanges"], apart := false, laid := [("unicode/utf8.acceptRanges", laid_unicode_utf8_acceptRanges), ("limner/widths.hidden", laid_limner_widths_hidden), ("limner/widths.wide", laid_limner_widths_wide), ("unicode/utf8.first", laid_unicode_utf8_first)], narrowed := true }
def WidthsJoinUptoSaid : Prop := widthsJoinUptoRow.holds Tryd.pinned (OpenSpec.upto widthsJoinSpec)

end Rows
end Go.Proofs.YtkibkpfjmdibcaaDoor
