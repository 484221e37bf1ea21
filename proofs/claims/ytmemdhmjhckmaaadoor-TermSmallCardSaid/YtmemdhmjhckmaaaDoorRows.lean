/-
  NARROWER THAN 'FOR EVERY INPUT', by the rows' own cells (each row's printed sentence says how): TermSmall: laid · TermText: laid · TermClear: laid · TermNone: laid · TermValid: laid.
  DERIVED. THE GIVEN ROWS OF THIS SEAT. 5 by the template 'for every input the law returns true; each argument reads behind the call as it read before'; 0 by the template 'total and deterministic' (their statements: YtmemdhmjhckmaaaDoorTotals.lean).
  GIVEN WITH THE SEED: the statements are not yours to turn. If you find one false, say at which input.
  Laid BY PROGRAM, IN A SANDBOX (cutbox-rows.mjs): the forced cells as the released guide's own fill.sh prints them over the translation 494d3efdaab768d9… (all of the seat's roots in one cut). By AI agents, Wed Nov 11 2026. No macro, syntax, notation, axiom, sorry.
-/
import Derived.Test.YtmemdhmjhckmaaaDoorChecked
import GoSem.PinnedTables
import GoSem.Claim
import GoSem.ClaimJoined
import GoSem.ClaimMapViews
import Derived.JoinedTies
import Derived.KernelRfl
namespace Go.Proofs.YtmemdhmjhckmaaaDoor
/- THE CELL 'sum', in the pinned program and in every row, IS THE sha256 OF THE DUMP (.gsa) THAT YtmemdhmjhckmaaaDoorProg.lean LOADS. Nothing in Lean hashes anything: it is a label: what it is worth is what the hold of that sum in a sandbox is worth. -/
noncomputable def Tryd.pinned : Pinned := { name := "ytmemdhmjhckmaaadoor", sum := "494d3efdaab768d9047822cb41c08f03ef3eaaf14a82af78232adfd8cb989961", checked := Tryd.checked }
namespace Rows
def none {H : Type} : Left H := { results := [], args := [] }

/- WHAT THE LISTED PACKAGE-LEVEL VARIABLES READ AS WHEN THE CALL BEGINS. Each datum BY PROGRAM (the guide's laid-datum.mjs) off the statement by which the dump's own 'gosem.cut.vars' lays the variable. In a bare row this is a premise. The card (YtmemdhmjhckmaaaDoorCards.lean) ties it to the program's text. -/
def laid_unicode_utf8_acceptRanges {H : Type} : DataW H := .agg [.agg [.lit (.int .u8 128), .lit (.int .u8 191)], .agg [.lit (.int .u8 160), .lit (.int .u8 191)], .agg [.lit (.int .u8 128), .lit (.int .u8 159)], .agg [.lit (.int .u8 144), .lit (.int .u8 191)], .agg [.lit (.int .u8 128), .lit (.int .u8 143)], .agg [.lit (.int .u8 0), .lit (.int .u8 0)], .agg [.lit (.int .u8 0), .lit (.int .u8 0)], .agg [.lit (.int .u8 0), .lit (.int .u8 0)], .agg [.lit (.int .u8 0), .lit (.int .u8 0)], .agg [.lit (.int .u8 0), .lit (.int .u8 0)], .agg [.lit (.int .u8 0), .lit (.int .u8 0)], .agg [.lit (.int .u8 0), .lit (.int .u8 0)], .agg [.lit (.int .u8 0), .lit (.int .u8 0)], .agg [.lit (.int .u8 0), .lit (.int .u8 0)], .agg [.lit (.int .u8 0), .lit (.int .u8 0)], .agg [.lit (.int .u8 0), .lit (.int .u8 0)]]
def laid_limner_widths_hidden {H : Type} : DataW H := .agg [.agg [.lit (.int .i32 0), .lit (.int .i32 31)], .agg [.lit (.int .i32 127), .lit (.int .i32 159)], .agg [.lit (.int .i32 768), .lit (.int .i32 879)], .agg [.lit (.int .i32 8203), .lit (.int .i32 8207)], .agg [.lit (.int .i32 8232), .lit (.int .i32 8238)], .agg [.lit (.int .i32 55296), .lit (.int .i32 57343)], .agg [.lit (.int .i32 65024), .lit (.int .i32 65039)], .agg [.lit (.int .i32 65279), .lit (.int .i32 65279)]]
def laid_limner_widths_wide {H : Type} : DataW H := .agg [.agg [.lit (.int .i32 4352), .lit (.int .i32 4447)], .agg [.lit (.int .i32 11904), .lit (.int .i32 12350)], .agg [.lit (.int .i32 12353), .lit (.int .i32 13311)], .agg [.lit (.int .i32 13312), .lit (.int .i32 19903)], .agg [.lit (.int .i32 19968), .lit (.int .i32 40959)], .agg [.lit (.int .i32 40960), .lit (.int .i32 42191)], .agg [.lit (.int .i32 44032), .lit (.int .i32 55203)], .agg [.lit (.int .i32 63744), .lit (.int .i32 64255)], .agg [.lit (.int .i32 65072), .lit (.int .i32 65135)], .agg [.lit (.int .i32 65281), .lit (.int .i32 65376)], .agg [.lit (.int .i32 65504), .lit (.int .i32 65510)], .agg [.lit (.int .i32 127744), .lit (.int .i32 128591)], .agg [.lit (.int .i32 129280), .lit (.int .i32 129535)], .agg [.lit (.int .i32 131072), .lit (.int .i32 262141)]]
def laid_limner_grids_blank {H : Type} : DataW H := .agg [.lit (.int .i32 32), .lit (.int .i64 1), .agg [.lit (.int .i64 0), .lit (.bool false), .lit (.bool false), .lit (.bool false)]]
def laid_limner_term_blank {H : Type} : DataW H := .agg [.lit (.int .i32 32), .lit (.int .i64 1), .agg [.lit (.int .i64 0), .lit (.bool false), .lit (.bool false), .lit (.bool false)]]
/-- One of Go's own tables, pinned by name: the form's constant. -/
def laid_unicode_utf8_first : DataW Unit := Go.Pinned.utf8First

/-- 'limnerlaw08.TermSmall': WHATEVER THE INPUT: true; the input reads as it did. -/
def termSmallSpec : ChangeSpec := { name := "termSmall", fn := fun _ => fun
  | [d1, d2] => { results := [.lit (.bool true)], args := [d1, d2] }
  | _ => none }
def termSmallRow : OpenClaim := { program := "ytmemdhmjhckmaaadoor", sum := "494d3efdaab768d9047822cb41c08f03ef3eaaf14a82af78232adfd8cb989961", func := "limner/limnerlaw08.TermSmall", spec := "termSmall", inPlace := ["internal/bytealg.IndexByteString", "internal/bytealg.IndexString", "internal/abi.NoEscape"], unfollowed := true, recurses := true, named := ["limner/grids.blank", "unicode/utf8.first", "unicode/utf8.acceptRanges", "internal/bytealg.MaxLen", "limner/widths.hidden", "limner/widths.wide", "limner/term.blank"], apart := false, laid := [("unicode/utf8.acceptRanges", laid_unicode_utf8_acceptRanges), ("limner/widths.hidden", laid_limner_widths_hidden), ("limner/widths.wide", laid_limner_widths_wide), ("limner/grids.blank", laid_limner_grids_blank), ("limner/term.blank", laid_limner_term_blank), ("unicode/utf8.first", laid_unicode_utf8_first)] }
def TermSmallSaid : Prop := termSmallRow.holds Tryd.pinned (OpenSpec.ofChange termSmallSpec)

/-- ITS FALSE NEIGHBOUR: 'it returns false'. Refute it at one input. -/
def termSmallWrong : ChangeSpec := { name := "termSmall", fn := fun _ => fun
  | [d1, d2] => { results := [.lit (.bool false)], args := [d1, d2] }
  | _ => none }
def TermSmallWrongFalsely : Prop := termSmallRow.holds Tryd.pinned (OpenSpec.ofChange termSmallWrong)

/-- 'limnerlaw08.TermText': WHATEVER THE INPUT: true; the input reads as it did. -/
def termTextSpec : ChangeSpec := { name := "termText", fn := fun _ => fun
  | [d1, d2] => { results := [.lit (.bool true)], args := [d1, d2] }
  | _ => none }
def termTextRow : OpenClaim := { program := "ytmemdhmjhckmaaadoor", sum := "494d3efdaab768d9047822cb41c08f03ef3eaaf14a82af78232adfd8cb989961", func := "limner/limnerlaw08.TermText", spec := "termText", inPlace := ["internal/bytealg.IndexByteString", "internal/bytealg.IndexString", "internal/abi.NoEscape"], unfollowed := true, recurses := true, named := ["limner/grids.blank", "unicode/utf8.first", "unicode/utf8.acceptRanges", "internal/bytealg.MaxLen", "limner/widths.hidden", "limner/widths.wide", "limner/term.blank"], apart := false, laid := [("unicode/utf8.acceptRanges", laid_unicode_utf8_acceptRanges), ("limner/widths.hidden", laid_limner_widths_hidden), ("limner/widths.wide", laid_limner_widths_wide), ("limner/grids.blank", laid_limner_grids_blank), ("limner/term.blank", laid_limner_term_blank), ("unicode/utf8.first", laid_unicode_utf8_first)] }
def TermTextSaid : Prop := termTextRow.holds Tryd.pinned (OpenSpec.ofChange termTextSpec)

/-- ITS FALSE NEIGHBOUR: 'it returns false'. Refute it at one input. -/
def termTextWrong : ChangeSpec := { name := "termText", fn := fun _ => fun
  | [d1, d2] => { results := [.lit (.bool false)], args := [d1, d2] }
  | _ => none }
def TermTextWrongFalsely : Prop := termTextRow.holds Tryd.pinned (OpenSpec.ofChange termTextWrong)

/-- 'limnerlaw08.TermClear': WHATEVER THE INPUT: true; the input reads as it did. -/
def termClearSpec : ChangeSpec := { name := "termClear", fn := fun _ => fun
  | [d1, d2, d3] => { results := [.lit (.bool true)], args := [d1, d2, d3] }
  | _ => none }
def termClearRow : OpenClaim := { program := "ytmemdhmjhckmaaadoor", sum := "494d3efdaab768d9047822cb41c08f03ef3eaaf14a82af78232adfd8cb989961", func := "limner/limnerlaw08.TermClear", spec := "termClear", inPlace := ["internal/bytealg.IndexByteString", "internal/bytealg.IndexString", "internal/abi.NoEscape"], unfollowed := true, recurses := true, named := ["limner/grids.blank", "unicode/utf8.first", "unicode/utf8.acceptRanges", "internal/bytealg.MaxLen", "limner/widths.hidden", "limner/widths.wide", "limner/term.blank"], apart := false, laid := [("unicode/utf8.acceptRanges", laid_unicode_utf8_acceptRanges), ("limner/widths.hidden", laid_limner_widths_hidden), ("limner/widths.wide", laid_limner_widths_wide), ("limner/grids.blank", laid_limner_grids_blank), ("limner/term.blank", laid_limner_term_blank), ("unicode/utf8.first", laid_unicode_utf8_first)] }
def TermClearSaid : Prop := termClearRow.holds Tryd.pinned (OpenSpec.ofChange termClearSpec)

/-- ITS FALSE NEIGHBOUR: 'it returns false'. Refute it at one input. -/
def termClearWrong : ChangeSpec := { name := "termClear", fn := fun _ => fun
  | [d1, d2, d3] => { results := [.lit (.bool false)], args := [d1, d2, d3] }
  | _ => none }
def TermClearWrongFalsely : Prop := termClearRow.holds Tryd.pinned (OpenSpec.ofChange termClearWrong)

/-- 'limnerlaw08.TermNone': WHATEVER THE INPUT: true; the input reads as it did. -/
def termNoneSpec : ChangeSpec := { name := "termNone", fn := fun _ => fun
  | [d1, d2, d3] => { results := [.lit (.bool true)], args := [d1, d2, d3] }
  | _ => none }
def termNoneRow : OpenClaim := { program := "ytmemdhmjhckmaaadoor", sum := "494d3efdaab768d9047822cb41c08f03ef3eaaf14a82af78232adfd8cb989961", func := "limner/limnerlaw08.TermNone", spec := "termNone", inPlace := ["internal/bytealg.IndexByteString", "internal/bytealg.IndexString", "internal/abi.NoEscape"], unfollowed := true, recurses := true, named := ["limner/grids.blank", "unicode/utf8.first", "unicode/utf8.acceptRanges", "internal/bytealg.MaxLen", "limner/widths.hidden", "limner/widths.wide", "limner/term.blank"], apart := false, laid := [("unicode/utf8.acceptRanges", laid_unicode_utf8_acceptRanges), ("limner/widths.hidden", laid_limner_widths_hidden), ("limner/widths.wide", laid_limner_widths_wide), ("limner/grids.blank", laid_limner_grids_blank), ("limner/term.blank", laid_limner_term_blank), ("unicode/utf8.first", laid_unicode_utf8_first)] }
def TermNoneSaid : Prop := termNoneRow.holds Tryd.pinned (OpenSpec.ofChange termNoneSpec)

/-- ITS FALSE NEIGHBOUR: 'it returns false'. Refute it at one input. -/
def termNoneWrong : ChangeSpec := { name := "termNone", fn := fun _ => fun
  | [d1, d2, d3] => { results := [.lit (.bool false)], args := [d1, d2, d3] }
  | _ => none }
def TermNoneWrongFalsely : Prop := termNoneRow.holds Tryd.pinned (OpenSpec.ofChange termNoneWrong)

/-- 'limnerlaw08.TermValid': WHATEVER THE INPUT: true; the input reads as it did. -/
def termValidSpec : ChangeSpec := { name := "termValid", fn := fun _ => fun
  | [d1, d2] => { results := [.lit (.bool true)], args := [d1, d2] }
  | _ => none }
def termValidRow : OpenClaim := { program := "ytmemdhmjhckmaaadoor", sum := "494d3efdaab768d9047822cb41c08f03ef3eaaf14a82af78232adfd8cb989961", func := "limner/limnerlaw08.TermValid", spec := "termValid", inPlace := ["internal/bytealg.IndexByteString", "internal/bytealg.IndexString", "internal/abi.NoEscape"], unfollowed := true, recurses := true, named := ["limner/grids.blank", "unicode/utf8.first", "unicode/utf8.acceptRanges", "internal/bytealg.MaxLen", "limner/widths.hidden", "limner/widths.wide", "limner/term.blank"], apart := false, laid := [("unicode/utf8.acceptRanges", laid_unicode_utf8_acceptRanges), ("limner/widths.hidden", laid_limner_widths_hidden), ("limner/widths.wide", laid_limner_widths_wide), ("limner/grids.blank", laid_limner_grids_blank), ("limner/term.blank", laid_limner_term_blank), ("unicode/utf8.first", laid_unicode_utf8_first)] }
def TermValidSaid : Prop := termValidRow.holds Tryd.pinned (OpenSpec.ofChange termValidSpec)

/-- ITS FALSE NEIGHBOUR: 'it returns false'. Refute it at one input. -/
def termValidWrong : ChangeSpec := { name := "termValid", fn := fun _ => fun
  | [d1, d2] => { results := [.lit (.bool false)], args := [d1, d2] }
  | _ => none }
def TermValidWrongFalsely : Prop := termValidRow.holds Tryd.pinned (OpenSpec.ofChange termValidWrong)

/- THE SECOND FORM. 'bulk': how many values and letters a reading holds, each counted each time it is reached (what is shared counts as often as it is met; a slice's spare places count too). A statement '..UptoSaid' is the law's where the arguments, and the package variables that the reading takes, are together of bulk at most 1048576: NARROWER than '..Said'. Prove '..Said' where nothing that the law and all that it calls make is longer than what came in: it says more and counts as full. Else prove '..UptoSaid'. A law counts once. -/
mutual
def uptoBulk {H : Type} : DataW H → Nat
  | .lit (.string bytes) => bytes.length + 1
  | .lit _ => 1
  | .nil => 1
  | .ptr d => uptoBulk d + 1
  | .slice elems spare => uptoBulkAll elems + uptoBulkAll spare + 1
  | .agg parts => uptoBulkAll parts + 1
  | .iface _ d => uptoBulk d + 1
  | .map entries => uptoBulkEntries entries + 1
  | .held _ => 1
def uptoBulkAll {H : Type} : List (DataW H) → Nat
  | [] => 0
  | d :: r => uptoBulk d + uptoBulkAll r
def uptoBulkEntries {H : Type} : List (Lit × DataW H) → Nat
  | [] => 0
  | x :: r => uptoBulkEntry x + uptoBulkEntries r
def uptoBulkEntry {H : Type} : Lit × DataW H → Nat
  | (.string bytes, d) => bytes.length + uptoBulk d + 1
  | (_, d) => uptoBulk d + 1
 end
def uptoSmall : (H : Type) → List (DataW H) → Bool := fun _ ds => decide (uptoBulkAll ds ≤ 1048576)
def OpenSpec.upto (s : _root_.Go.ChangeSpec) : _root_.Go.OpenSpec := { _root_.Go.OpenSpec.ofChange s with cond := some uptoSmall }

/-- 'limnerlaw08.TermSmall', WHERE WHAT IT READS IS OF BULK AT MOST 1048576: true; the input reads as it did. -/
def termSmallUptoRow : OpenClaim := { program := "ytmemdhmjhckmaaadoor", sum := "494d3efdaab768d9047822cb41c08f03ef3eaaf14a82af78232adfd8cb989961", func := "limner/limnerlaw08.TermSmall", spec := "termSmall", inPlace := ["internal/bytealg.IndexByteString", "internal/bytealg.IndexString", "internal/abi.NoEscape"], unfollowed := true, recurses := true, named := ["limner/grids.blank", "unicode/utf8.first", "unicode/utf8.acceptRanges", "internal/bytealg.MaxLen", "limner/widths.hidden", "limner/widths.wide", "limner/term.blank"], apart := false, laid := [("unicode/utf8.acceptRanges", laid_unicode_utf8_acceptRanges), ("limner/widths.hidden", laid_limner_widths_hidden), ("limner/widths.wide", laid_limner_widths_wide), ("limner/grids.blank", laid_limner_grids_blank), ("limner/term.blank", laid_limner_term_blank), ("unicode/utf8.first", laid_unicode_utf8_first)], narrowed := true }
def TermSmallUptoSaid : Prop := termSmallUptoRow.holds Tryd.pinned (OpenSpec.upto termSmallSpec)

/-- 'limnerlaw08.TermText', WHERE WHAT IT READS IS OF BULK AT MOST 1048576: true; the input reads as it did. -/
def termTextUptoRow : OpenClaim := { program := "ytmemdhmjhckmaaadoor", sum := "494d3efdaab768d9047822cb41c08f03ef3eaaf14a82af78232adfd8cb989961", func := "limner/limnerlaw08.TermText", spec := "termText", inPlace := ["internal/bytealg.IndexByteString", "internal/bytealg.IndexString", "internal/abi.NoEscape"], unfollowed := true, recurses := true, named := ["limner/grids.blank", "unicode/utf8.first", "unicode/utf8.acceptRanges", "internal/bytealg.MaxLen", "limner/widths.hidden", "limner/widths.wide", "limner/term.blank"], apart := false, laid := [("unicode/utf8.acceptRanges", laid_unicode_utf8_acceptRanges), ("limner/widths.hidden", laid_limner_widths_hidden), ("limner/widths.wide", laid_limner_widths_wide), ("limner/grids.blank", laid_limner_grids_blank), ("limner/term.blank", laid_limner_term_blank), ("unicode/utf8.first", laid_unicode_utf8_first)], narrowed := true }
def TermTextUptoSaid : Prop := termTextUptoRow.holds Tryd.pinned (OpenSpec.upto termTextSpec)

/-- 'limnerlaw08.TermClear', WHERE WHAT IT READS IS OF BULK AT MOST 1048576: true; the input reads as it did. -/
def termClearUptoRow : OpenClaim := { program := "ytmemdhmjhckmaaadoor", sum := "494d3efdaab768d9047822cb41c08f03ef3eaaf14a82af78232adfd8cb989961", func := "limner/limnerlaw08.TermClear", spec := "termClear", inPlace := ["internal/bytealg.IndexByteString", "internal/bytealg.IndexString", "internal/abi.NoEscape"], unfollowed := true, recurses := true, named := ["limner/grids.blank", "unicode/utf8.first", "unicode/utf8.acceptRanges", "internal/bytealg.MaxLen", "limner/widths.hidden", "limner/widths.wide", "limner/term.blank"], apart := false, laid := [("unicode/utf8.acceptRanges", laid_unicode_utf8_acceptRanges), ("limner/widths.hidden", laid_limner_widths_hidden), ("limner/widths.wide", laid_limner_widths_wide), ("limner/grids.blank", laid_limner_grids_blank), ("limner/term.blank", laid_limner_term_blank), ("unicode/utf8.first", laid_unicode_utf8_first)], narrowed := true }
def TermClearUptoSaid : Prop := termClearUptoRow.holds Tryd.pinned (OpenSpec.upto termClearSpec)

/-- 'limnerlaw08.TermNone', WHERE WHAT IT READS IS OF BULK AT MOST 1048576: true; the input reads as it did. -/
def termNoneUptoRow : OpenClaim := { program := "ytmemdhmjhckmaaadoor", sum := "494d3efdaab768d9047822cb41c08f03ef3eaaf14a82af78232adfd8cb989961", func := "limner/limnerlaw08.TermNone", spec := "termNone", inPlace := ["internal/bytealg.IndexByteString", "internal/bytealg.IndexString", "internal/abi.NoEscape"], unfollowed := true, recurses := true, named := ["limner/grids.blank", "unicode/utf8.first", "unicode/utf8.acceptRanges", "internal/bytealg.MaxLen", "limner/widths.hidden", "limner/widths.wide", "limner/term.blank"], apart := false, laid := [("unicode/utf8.acceptRanges", laid_unicode_utf8_acceptRanges), ("limner/widths.hidden", laid_limner_widths_hidden), ("limner/widths.wide", laid_limner_widths_wide), ("limner/grids.blank", laid_limner_grids_blank), ("limner/term.blank", laid_limner_term_blank), ("unicode/utf8.first", laid_unicode_utf8_first)], narrowed := true }
def TermNoneUptoSaid : Prop := termNoneUptoRow.holds Tryd.pinned (OpenSpec.upto termNoneSpec)

/-- 'limnerlaw08.TermValid', WHERE WHAT IT READS IS OF BULK AT MOST 1048576: true; the input reads as it did. -/
def termValidUptoRow : OpenClaim := { program := "ytmemdhmjhckmaaadoor", sum := "494d3efdaab768d9047822cb41c08f03ef3eaaf14a82af78232adfd8cb989961", func := "limner/limnerlaw08.TermValid", spec := "termValid", inPlace := ["internal/bytealg.IndexByteString", "internal/bytealg.IndexString", "internal/abi.NoEscape"], unfollowed := true, recurses := true, named := ["limner/grids.blank", "unicode/utf8.first", "unicode/utf8.acceptRanges", "internal/bytealg.MaxLen", "limner/widths.hidden", "limner/widths.wide", "limner/term.blank"], apart := false, laid := [("unicode/utf8.acceptRanges", laid_unicode_utf8_acceptRanges), ("limner/widths.hidden", laid_limner_widths_hidden), ("limner/widths.wide", laid_limner_widths_wide), ("limner/grids.blank", laid_limner_grids_blank), ("limner/term.blank", laid_limner_term_blank), ("unicode/utf8.first", laid_unicode_utf8_first)], narrowed := true }
def TermValidUptoSaid : Prop := termValidUptoRow.holds Tryd.pinned (OpenSpec.upto termValidSpec)

end Rows
end Go.Proofs.YtmemdhmjhckmaaaDoor
