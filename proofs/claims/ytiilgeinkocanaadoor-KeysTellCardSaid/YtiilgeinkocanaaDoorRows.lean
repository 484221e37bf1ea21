/-
  NARROWER THAN 'FOR EVERY INPUT', by the rows' own cells (each row's printed sentence says how): KeysBytes: laid · KeysTell: laid · KeysPaste: laid · KeysNone: laid · KeysRunes: laid · KeysTick: laid.
  DERIVED. THE GIVEN ROWS OF THIS SEAT. 6 by the template 'for every input the law returns true; each argument reads behind the call as it read before'; 0 by the template 'total and deterministic' (their statements: YtiilgeinkocanaaDoorTotals.lean).
  GIVEN WITH THE SEED: the statements are not yours to turn. If you find one false, say at which input.
  Laid BY PROGRAM, IN A SANDBOX (cutbox-rows.mjs): the forced cells as the released guide's own fill.sh prints them over the translation f473a321b23c9056… (all of the seat's roots in one cut). By AI agents, Wed Nov 11 2026. No macro, syntax, notation, axiom, sorry.
-/
import Derived.Test.YtiilgeinkocanaaDoorChecked
import GoSem.PinnedTables
import GoSem.Claim
import GoSem.ClaimJoined
import GoSem.ClaimMapViews
import Derived.JoinedTies
import Derived.KernelRfl
namespace Go.Proofs.YtiilgeinkocanaaDoor
/- THE CELL 'sum', in the pinned program and in every row, IS THE sha256 OF THE DUMP (.gsa) THAT YtiilgeinkocanaaDoorProg.lean LOADS. Nothing in Lean hashes anything: it is a label: what it is worth is what the hold of that sum in a sandbox is worth. -/
noncomputable def Tryd.pinned : Pinned := { name := "ytiilgeinkocanaadoor", sum := "f473a321b23c90567d9135da204aa94c600c9307e083d7335fe4559ad095cc01", checked := Tryd.checked }
namespace Rows
def none {H : Type} : Left H := { results := [], args := [] }

/- WHAT THE LISTED PACKAGE-LEVEL VARIABLES READ AS WHEN THE CALL BEGINS. Each datum BY PROGRAM (the guide's laid-datum.mjs) off the statement by which the dump's own 'gosem.cut.vars' lays the variable. In a bare row this is a premise. The card (YtiilgeinkocanaaDoorCards.lean) ties it to the program's text. -/
def laid_unicode_utf8_acceptRanges {H : Type} : DataW H := .agg [.agg [.lit (.int .u8 128), .lit (.int .u8 191)], .agg [.lit (.int .u8 160), .lit (.int .u8 191)], .agg [.lit (.int .u8 128), .lit (.int .u8 159)], .agg [.lit (.int .u8 144), .lit (.int .u8 191)], .agg [.lit (.int .u8 128), .lit (.int .u8 143)], .agg [.lit (.int .u8 0), .lit (.int .u8 0)], .agg [.lit (.int .u8 0), .lit (.int .u8 0)], .agg [.lit (.int .u8 0), .lit (.int .u8 0)], .agg [.lit (.int .u8 0), .lit (.int .u8 0)], .agg [.lit (.int .u8 0), .lit (.int .u8 0)], .agg [.lit (.int .u8 0), .lit (.int .u8 0)], .agg [.lit (.int .u8 0), .lit (.int .u8 0)], .agg [.lit (.int .u8 0), .lit (.int .u8 0)], .agg [.lit (.int .u8 0), .lit (.int .u8 0)], .agg [.lit (.int .u8 0), .lit (.int .u8 0)], .agg [.lit (.int .u8 0), .lit (.int .u8 0)]]
def laid_limner_widths_hidden {H : Type} : DataW H := .agg [.agg [.lit (.int .i32 0), .lit (.int .i32 31)], .agg [.lit (.int .i32 127), .lit (.int .i32 159)], .agg [.lit (.int .i32 768), .lit (.int .i32 879)], .agg [.lit (.int .i32 8203), .lit (.int .i32 8207)], .agg [.lit (.int .i32 8232), .lit (.int .i32 8238)], .agg [.lit (.int .i32 55296), .lit (.int .i32 57343)], .agg [.lit (.int .i32 65024), .lit (.int .i32 65039)], .agg [.lit (.int .i32 65279), .lit (.int .i32 65279)]]
def laid_limner_widths_wide {H : Type} : DataW H := .agg [.agg [.lit (.int .i32 4352), .lit (.int .i32 4447)], .agg [.lit (.int .i32 11904), .lit (.int .i32 12350)], .agg [.lit (.int .i32 12353), .lit (.int .i32 13311)], .agg [.lit (.int .i32 13312), .lit (.int .i32 19903)], .agg [.lit (.int .i32 19968), .lit (.int .i32 40959)], .agg [.lit (.int .i32 40960), .lit (.int .i32 42191)], .agg [.lit (.int .i32 44032), .lit (.int .i32 55203)], .agg [.lit (.int .i32 63744), .lit (.int .i32 64255)], .agg [.lit (.int .i32 65072), .lit (.int .i32 65135)], .agg [.lit (.int .i32 65281), .lit (.int .i32 65376)], .agg [.lit (.int .i32 65504), .lit (.int .i32 65510)], .agg [.lit (.int .i32 127744), .lit (.int .i32 128591)], .agg [.lit (.int .i32 129280), .lit (.int .i32 129535)], .agg [.lit (.int .i32 131072), .lit (.int .i32 262141)]]
/-- One of Go's own tables, pinned by name: the form's constant. -/
def laid_unicode_utf8_first : DataW Unit := Go.Pinned.utf8First

/-- 'limnerlaw09.KeysBytes': WHATEVER THE INPUT: true; the input reads as it did. -/
def keysBytesSpec : ChangeSpec := { name := "keysBytes", fn := fun _ => fun
  | [d] => { results := [.lit (.bool true)], args := [d] }
  | _ => none }
def keysBytesRow : OpenClaim := { program := "ytiilgeinkocanaadoor", sum := "f473a321b23c90567d9135da204aa94c600c9307e083d7335fe4559ad095cc01", func := "limner/limnerlaw09.KeysBytes", spec := "keysBytes", inPlace := ["internal/abi.NoEscape"], unfollowed := true, recurses := true, named := ["unicode/utf8.first", "unicode/utf8.acceptRanges", "limner/widths.hidden", "limner/widths.wide"], apart := false, laid := [("unicode/utf8.acceptRanges", laid_unicode_utf8_acceptRanges), ("limner/widths.hidden", laid_limner_widths_hidden), ("limner/widths.wide", laid_limner_widths_wide), ("unicode/utf8.first", laid_unicode_utf8_first)] }
def KeysBytesSaid : Prop := keysBytesRow.holds Tryd.pinned (OpenSpec.ofChange keysBytesSpec)

/-- ITS FALSE NEIGHBOUR: 'it returns false'. Refute it at one input. -/
def keysBytesWrong : ChangeSpec := { name := "keysBytes", fn := fun _ => fun
  | [d] => { results := [.lit (.bool false)], args := [d] }
  | _ => none }
def KeysBytesWrongFalsely : Prop := keysBytesRow.holds Tryd.pinned (OpenSpec.ofChange keysBytesWrong)

/-- 'limnerlaw09.KeysTell': WHATEVER THE INPUT: true; the input reads as it did. -/
def keysTellSpec : ChangeSpec := { name := "keysTell", fn := fun _ => fun
  | [d] => { results := [.lit (.bool true)], args := [d] }
  | _ => none }
def keysTellRow : OpenClaim := { program := "ytiilgeinkocanaadoor", sum := "f473a321b23c90567d9135da204aa94c600c9307e083d7335fe4559ad095cc01", func := "limner/limnerlaw09.KeysTell", spec := "keysTell", inPlace := ["internal/abi.NoEscape"], unfollowed := true, recurses := true, named := ["unicode/utf8.first", "unicode/utf8.acceptRanges", "limner/widths.hidden", "limner/widths.wide"], apart := false, laid := [("unicode/utf8.acceptRanges", laid_unicode_utf8_acceptRanges), ("limner/widths.hidden", laid_limner_widths_hidden), ("limner/widths.wide", laid_limner_widths_wide), ("unicode/utf8.first", laid_unicode_utf8_first)] }
def KeysTellSaid : Prop := keysTellRow.holds Tryd.pinned (OpenSpec.ofChange keysTellSpec)

/-- ITS FALSE NEIGHBOUR: 'it returns false'. Refute it at one input. -/
def keysTellWrong : ChangeSpec := { name := "keysTell", fn := fun _ => fun
  | [d] => { results := [.lit (.bool false)], args := [d] }
  | _ => none }
def KeysTellWrongFalsely : Prop := keysTellRow.holds Tryd.pinned (OpenSpec.ofChange keysTellWrong)

/-- 'limnerlaw09.KeysPaste': WHATEVER THE INPUT: true; the input reads as it did. -/
def keysPasteSpec : ChangeSpec := { name := "keysPaste", fn := fun _ => fun
  | [d1, d2] => { results := [.lit (.bool true)], args := [d1, d2] }
  | _ => none }
def keysPasteRow : OpenClaim := { program := "ytiilgeinkocanaadoor", sum := "f473a321b23c90567d9135da204aa94c600c9307e083d7335fe4559ad095cc01", func := "limner/limnerlaw09.KeysPaste", spec := "keysPaste", inPlace := ["internal/abi.NoEscape"], unfollowed := true, recurses := true, named := ["unicode/utf8.first", "unicode/utf8.acceptRanges", "limner/widths.hidden", "limner/widths.wide"], apart := false, laid := [("unicode/utf8.acceptRanges", laid_unicode_utf8_acceptRanges), ("limner/widths.hidden", laid_limner_widths_hidden), ("limner/widths.wide", laid_limner_widths_wide), ("unicode/utf8.first", laid_unicode_utf8_first)] }
def KeysPasteSaid : Prop := keysPasteRow.holds Tryd.pinned (OpenSpec.ofChange keysPasteSpec)

/-- ITS FALSE NEIGHBOUR: 'it returns false'. Refute it at one input. -/
def keysPasteWrong : ChangeSpec := { name := "keysPaste", fn := fun _ => fun
  | [d1, d2] => { results := [.lit (.bool false)], args := [d1, d2] }
  | _ => none }
def KeysPasteWrongFalsely : Prop := keysPasteRow.holds Tryd.pinned (OpenSpec.ofChange keysPasteWrong)

/-- 'limnerlaw09.KeysNone': WHATEVER THE INPUT: true; the input reads as it did. -/
def keysNoneSpec : ChangeSpec := { name := "keysNone", fn := fun _ => fun
  | [d] => { results := [.lit (.bool true)], args := [d] }
  | _ => none }
def keysNoneRow : OpenClaim := { program := "ytiilgeinkocanaadoor", sum := "f473a321b23c90567d9135da204aa94c600c9307e083d7335fe4559ad095cc01", func := "limner/limnerlaw09.KeysNone", spec := "keysNone", inPlace := ["internal/abi.NoEscape"], unfollowed := true, recurses := true, named := ["unicode/utf8.first", "unicode/utf8.acceptRanges", "limner/widths.hidden", "limner/widths.wide"], apart := false, laid := [("unicode/utf8.acceptRanges", laid_unicode_utf8_acceptRanges), ("limner/widths.hidden", laid_limner_widths_hidden), ("limner/widths.wide", laid_limner_widths_wide), ("unicode/utf8.first", laid_unicode_utf8_first)] }
def KeysNoneSaid : Prop := keysNoneRow.holds Tryd.pinned (OpenSpec.ofChange keysNoneSpec)

/-- ITS FALSE NEIGHBOUR: 'it returns false'. Refute it at one input. -/
def keysNoneWrong : ChangeSpec := { name := "keysNone", fn := fun _ => fun
  | [d] => { results := [.lit (.bool false)], args := [d] }
  | _ => none }
def KeysNoneWrongFalsely : Prop := keysNoneRow.holds Tryd.pinned (OpenSpec.ofChange keysNoneWrong)

/-- 'limnerlaw09.KeysRunes': WHATEVER THE INPUT: true; the input reads as it did. -/
def keysRunesSpec : ChangeSpec := { name := "keysRunes", fn := fun _ => fun
  | [d] => { results := [.lit (.bool true)], args := [d] }
  | _ => none }
def keysRunesRow : OpenClaim := { program := "ytiilgeinkocanaadoor", sum := "f473a321b23c90567d9135da204aa94c600c9307e083d7335fe4559ad095cc01", func := "limner/limnerlaw09.KeysRunes", spec := "keysRunes", inPlace := ["internal/abi.NoEscape"], unfollowed := true, recurses := true, named := ["unicode/utf8.first", "unicode/utf8.acceptRanges", "limner/widths.hidden", "limner/widths.wide"], apart := false, laid := [("unicode/utf8.acceptRanges", laid_unicode_utf8_acceptRanges), ("limner/widths.hidden", laid_limner_widths_hidden), ("limner/widths.wide", laid_limner_widths_wide), ("unicode/utf8.first", laid_unicode_utf8_first)] }
def KeysRunesSaid : Prop := keysRunesRow.holds Tryd.pinned (OpenSpec.ofChange keysRunesSpec)

/-- ITS FALSE NEIGHBOUR: 'it returns false'. Refute it at one input. -/
def keysRunesWrong : ChangeSpec := { name := "keysRunes", fn := fun _ => fun
  | [d] => { results := [.lit (.bool false)], args := [d] }
  | _ => none }
def KeysRunesWrongFalsely : Prop := keysRunesRow.holds Tryd.pinned (OpenSpec.ofChange keysRunesWrong)

/-- 'limnerlaw09.KeysTick': WHATEVER THE INPUT: true; the input reads as it did. -/
def keysTickSpec : ChangeSpec := { name := "keysTick", fn := fun _ => fun
  | [d1, d2] => { results := [.lit (.bool true)], args := [d1, d2] }
  | _ => none }
def keysTickRow : OpenClaim := { program := "ytiilgeinkocanaadoor", sum := "f473a321b23c90567d9135da204aa94c600c9307e083d7335fe4559ad095cc01", func := "limner/limnerlaw09.KeysTick", spec := "keysTick", inPlace := ["internal/abi.NoEscape"], unfollowed := true, recurses := true, named := ["unicode/utf8.first", "unicode/utf8.acceptRanges", "limner/widths.hidden", "limner/widths.wide"], apart := false, laid := [("unicode/utf8.acceptRanges", laid_unicode_utf8_acceptRanges), ("limner/widths.hidden", laid_limner_widths_hidden), ("limner/widths.wide", laid_limner_widths_wide), ("unicode/utf8.first", laid_unicode_utf8_first)] }
def KeysTickSaid : Prop := keysTickRow.holds Tryd.pinned (OpenSpec.ofChange keysTickSpec)

/-- ITS FALSE NEIGHBOUR: 'it returns false'. Refute it at one input. -/
def keysTickWrong : ChangeSpec := { name := "keysTick", fn := fun _ => fun
  | [d1, d2] => { results := [.lit (.bool false)], args := [d1, d2] }
  | _ => none }
def KeysTickWrongFalsely : Prop := keysTickRow.holds Tryd.pinned (OpenSpec.ofChange keysTickWrong)

/- THE SECOND FORM. 'bulk': how many values and letters a reading holds, each counted each time it is reached (what is shared counts as often as it is met; a slice's spare places count too). A statement '..UptoSaid' is the law's where the arguments, and the package variables that the reading takes, are together of bulk at most 1048576: NARROWER than '..Said'. Prove '..Said' where nothing that the law and all that it calls make is longer than what came in: it says more and counts as full. Else prove '..UptoSaid'. A law counts once. -/
mutual
def uptoBulk {H : Type} : DataW H → Nat
  | .lit (.string bytes) => bytes.length + 1
  | .lit _ => 1
  | .nil => 1
  | .ptr d => uptoBulk d + 1
  | .slice elems spare => uptoBulkAll elems + uptoBulkAll spare + 1
  | .agg parts => uptoBulkAll parts + 1
  | .iface _ d => uptoBulk d + 1
  | .map entries => uptoBulkEntries entries + 1
  | .held _ => 1
def uptoBulkAll {H : Type} : List (DataW H) → Nat
  | [] => 0
  | d :: r => uptoBulk d + uptoBulkAll r
def uptoBulkEntries {H : Type} : List (Lit × DataW H) → Nat
  | [] => 0
  | x :: r => uptoBulkEntry x + uptoBulkEntries r
def uptoBulkEntry {H : Type} : Lit × DataW H → Nat
  | (.string bytes, d) => bytes.length + uptoBulk d + 1
  | (_, d) => uptoBulk d + 1
 end
def uptoSmall : (H : Type) → List (DataW H) → Bool := fun _ ds => decide (uptoBulkAll ds ≤ 1048576)
def OpenSpec.upto (s : _root_.Go.ChangeSpec) : _root_.Go.OpenSpec := { _root_.Go.OpenSpec.ofChange s with cond := some uptoSmall }

/-- 'limnerlaw09.KeysBytes', WHERE WHAT IT READS IS OF BULK AT MOST 1048576: true; the input reads as it did. -/
def keysBytesUptoRow : OpenClaim := { program := "ytiilgeinkocanaadoor", sum := "f473a321b23c90567d9135da204aa94c600c9307e083d7335fe4559ad095cc01", func := "limner/limnerlaw09.KeysBytes", spec := "keysBytes", inPlace := ["internal/abi.NoEscape"], unfollowed := true, recurses := true, named := ["unicode/utf8.first", "unicode/utf8.acceptRanges", "limner/widths.hidden", "limner/widths.wide"], apart := false, laid := [("unicode/utf8.acceptRanges", laid_unicode_utf8_acceptRanges), ("limner/widths.hidden", laid_limner_widths_hidden), ("limner/widths.wide", laid_limner_widths_wide), ("unicode/utf8.first", laid_unicode_utf8_first)], narrowed := true }
def KeysBytesUptoSaid : Prop := keysBytesUptoRow.holds Tryd.pinned (OpenSpec.upto keysBytesSpec)

/-- 'limnerlaw09.KeysTell', WHERE WHAT IT READS IS OF BULK AT MOST 1048576: true; the input reads as it did. -/
def keysTellUptoRow : OpenClaim := { program := "ytiilgeinkocanaadoor", sum := "f473a321b23c90567d9135da204aa94c600c9307e083d7335fe4559ad095cc01", func := "limner/limnerlaw09.KeysTell", spec := "keysTell", inPlace := ["internal/abi.NoEscape"], unfollowed := true, recurses := true, named := ["unicode/utf8.first", "unicode/utf8.acceptRanges", "limner/widths.hidden", "limner/widths.wide"], apart := false, laid := [("unicode/utf8.acceptRanges", laid_unicode_utf8_acceptRanges), ("limner/widths.hidden", laid_limner_widths_hidden), ("limner/widths.wide", laid_limner_widths_wide), ("unicode/utf8.first", laid_unicode_utf8_first)], narrowed := true }
def KeysTellUptoSaid : Prop := keysTellUptoRow.holds Tryd.pinned (OpenSpec.upto keysTellSpec)

/-- 'limnerlaw09.KeysPaste', WHERE WHAT IT READS IS OF BULK AT MOST 1048576: true; the input reads as it did. -/
def keysPasteUptoRow : OpenClaim := { program := "ytiilgeinkocanaadoor", sum := "f473a321b23c90567d9135da204aa94c600c9307e083d7335fe4559ad095cc01", func := "limner/limnerlaw09.KeysPaste", spec := "keysPaste", inPlace := ["internal/abi.NoEscape"], unfollowed := true, recurses := true, named := ["unicode/utf8.first", "unicode/utf8.acceptRanges", "limner/widths.hidden", "limner/widths.wide"], apart := false, laid := [("unicode/utf8.acceptRanges", laid_unicode_utf8_acceptRanges), ("limner/widths.hidden", laid_limner_widths_hidden), ("limner/widths.wide", laid_limner_widths_wide), ("unicode/utf8.first", laid_unicode_utf8_first)], narrowed := true }
def KeysPasteUptoSaid : Prop := keysPasteUptoRow.holds Tryd.pinned (OpenSpec.upto keysPasteSpec)

/-- 'limnerlaw09.KeysNone', WHERE WHAT IT READS IS OF BULK AT MOST 1048576: true; the input reads as it did. -/
def keysNoneUptoRow : OpenClaim := { program := "ytiilgeinkocanaadoor", sum := "f473a321b23c90567d9135da204aa94c600c9307e083d7335fe4559ad095cc01", func := "limner/limnerlaw09.KeysNone", spec := "keysNone", inPlace := ["internal/abi.NoEscape"], unfollowed := true, recurses := true, named := ["unicode/utf8.first", "unicode/utf8.acceptRanges", "limner/widths.hidden", "limner/widths.wide"], apart := false, laid := [("unicode/utf8.acceptRanges", laid_unicode_utf8_acceptRanges), ("limner/widths.hidden", laid_limner_widths_hidden), ("limner/widths.wide", laid_limner_widths_wide), ("unicode/utf8.first", laid_unicode_utf8_first)], narrowed := true }
def KeysNoneUptoSaid : Prop := keysNoneUptoRow.holds Tryd.pinned (OpenSpec.upto keysNoneSpec)

/-- 'limnerlaw09.KeysRunes', WHERE WHAT IT READS IS OF BULK AT MOST 1048576: true; the input reads as it did. -/
def keysRunesUptoRow : OpenClaim := { program := "ytiilgeinkocanaadoor", sum := "f473a321b23c90567d9135da204aa94c600c9307e083d7335fe4559ad095cc01", func := "limner/limnerlaw09.KeysRunes", spec := "keysRunes", inPlace := ["internal/abi.NoEscape"], unfollowed := true, recurses := true, named := ["unicode/utf8.first", "unicode/utf8.acceptRanges", "limner/widths.hidden", "limner/widths.wide"], apart := false, laid := [("unicode/utf8.acceptRanges", laid_unicode_utf8_acceptRanges), ("limner/widths.hidden", laid_limner_widths_hidden), ("limner/widths.wide", laid_limner_widths_wide), ("unicode/utf8.first", laid_unicode_utf8_first)], narrowed := true }
def KeysRunesUptoSaid : Prop := keysRunesUptoRow.holds Tryd.pinned (OpenSpec.upto keysRunesSpec)

/-- 'limnerlaw09.KeysTick', WHERE WHAT IT READS IS OF BULK AT MOST 1048576: true; the input reads as it did. -/
def keysTickUptoRow : OpenClaim := { program := "ytiilgeinkocanaadoor", sum := "f473a321b23c90567d9135da204aa94c600c9307e083d7335fe4559ad095cc01", func := "limner/limnerlaw09.KeysTick", spec := "keysTick", inPlace := ["internal/abi.NoEscape"], unfollowed := true, recurses := true, named := ["unicode/utf8.first", "unicode/utf8.acceptRanges", "limner/widths.hidden", "limner/widths.wide"], apart := false, laid := [("unicode/utf8.acceptRanges", laid_unicode_utf8_acceptRanges), ("limner/widths.hidden", laid_limner_widths_hidden), ("limner/widths.wide", laid_limner_widths_wide), ("unicode/utf8.first", laid_unicode_utf8_first)], narrowed := true }
def KeysTickUptoSaid : Prop := keysTickUptoRow.holds Tryd.pinned (OpenSpec.upto keysTickSpec)

end Rows
end Go.Proofs.YtiilgeinkocanaaDoor
