/-
  NARROWER THAN 'FOR EVERY INPUT', by the rows' own cells (each row's printed sentence says how): ParserTell: laid · ParserPairs: laid · ParserFew: laid · ParserParts: laid · ParserControl: laid.
  DERIVED. THE GIVEN ROWS OF THIS SEAT. 5 by the template 'for every input the law returns true; each argument reads behind the call as it read before'; 0 by the template 'total and deterministic' (their statements: YtmheleifjpfciaaDoorTotals.lean).
  GIVEN WITH THE SEED: the statements are not yours to turn. If you find one false, say at which input.
  Laid BY PROGRAM, IN A SANDBOX (cutbox-rows.mjs): the forced cells as the released guide's own fill.sh prints them over the translation 4ffe29223dbfb22f… (all of the seat's roots in one cut). By AI agents, Wed Nov 11 2026. No macro, syntax, notation, axiom, sorry.
-/
import Derived.Test.YtmheleifjpfciaaDoorChecked
import GoSem.PinnedTables
import GoSem.Claim
import GoSem.ClaimJoined
import GoSem.ClaimMapViews
import Derived.JoinedTies
import Derived.KernelRfl
namespace Go.Proofs.YtmheleifjpfciaaDoor
/- THE CELL 'sum', in the pinned program and in every row, IS THE sha256 OF THE DUMP (.gsa) THAT YtmheleifjpfciaaDoorProg.lean LOADS. Nothing in Lean hashes anything: it is a label: what it is worth is what the hold of that sum in a sandbox is worth. -/
noncomputable def Tryd.pinned : Pinned := { name := "ytmheleifjpfciaadoor", sum := "4ffe29223dbfb22f66274f8c602b9c2d190fcf339c21682a1d97c304f42510f1", checked := Tryd.checked }
namespace Rows
def none {H : Type} : Left H := { results := [], args := [] }

/- WHAT THE LISTED PACKAGE-LEVEL VARIABLES READ AS WHEN THE CALL BEGINS. Each datum BY PROGRAM (the guide's laid-datum.mjs) off the statement by which the dump's own 'gosem.cut.vars' lays the variable. In a bare row this is a premise. The card (YtmheleifjpfciaaDoorCards.lean) ties it to the program's text. -/
def laid_unicode_utf8_acceptRanges {H : Type} : DataW H := .agg [.agg [.lit (.int .u8 128), .lit (.int .u8 191)], .agg [.lit (.int .u8 160), .lit (.int .u8 191)], .agg [.lit (.int .u8 128), .lit (.int .u8 159)], .agg [.lit (.int .u8 144), .lit (.int .u8 191)], .agg [.lit (.int .u8 128), .lit (.int .u8 143)], .agg [.lit (.int .u8 0), .lit (.int .u8 0)], .agg [.lit (.int .u8 0), .lit (.int .u8 0)], .agg [.lit (.int .u8 0), .lit (.int .u8 0)], .agg [.lit (.int .u8 0), .lit (.int .u8 0)], .agg [.lit (.int .u8 0), .lit (.int .u8 0)], .agg [.lit (.int .u8 0), .lit (.int .u8 0)], .agg [.lit (.int .u8 0), .lit (.int .u8 0)], .agg [.lit (.int .u8 0), .lit (.int .u8 0)], .agg [.lit (.int .u8 0), .lit (.int .u8 0)], .agg [.lit (.int .u8 0), .lit (.int .u8 0)], .agg [.lit (.int .u8 0), .lit (.int .u8 0)]]
/-- One of Go's own tables, pinned by name: the form's constant. -/
def laid_unicode_utf8_first : DataW Unit := Go.Pinned.utf8First

/-- 'limnerlaw07.ParserTell': WHATEVER THE INPUT: true; the input reads as it did. -/
def parserTellSpec : ChangeSpec := { name := "parserTell", fn := fun _ => fun
  | [d] => { results := [.lit (.bool true)], args := [d] }
  | _ => none }
def parserTellRow : OpenClaim := { program := "ytmheleifjpfciaadoor", sum := "4ffe29223dbfb22f66274f8c602b9c2d190fcf339c21682a1d97c304f42510f1", func := "limner/limnerlaw07.ParserTell", spec := "parserTell", inPlace := ["internal/bytealg.IndexByteString", "internal/bytealg.IndexString"], unfollowed := true, recurses := true, named := ["unicode/utf8.first", "unicode/utf8.acceptRanges", "internal/bytealg.MaxLen"], apart := false, laid := [("unicode/utf8.acceptRanges", laid_unicode_utf8_acceptRanges), ("unicode/utf8.first", laid_unicode_utf8_first)] }
def ParserTellSaid : Prop := parserTellRow.holds Tryd.pinned (OpenSpec.ofChange parserTellSpec)

/-- ITS FALSE NEIGHBOUR: 'it returns false'. Refute it at one input. -/
def parserTellWrong : ChangeSpec := { name := "parserTell", fn := fun _ => fun
  | [d] => { results := [.lit (.bool false)], args := [d] }
  | _ => none }
def ParserTellWrongFalsely : Prop := parserTellRow.holds Tryd.pinned (OpenSpec.ofChange parserTellWrong)

/-- 'limnerlaw07.ParserPairs': WHATEVER THE INPUT: true; the input reads as it did. -/
def parserPairsSpec : ChangeSpec := { name := "parserPairs", fn := fun _ => fun
  | [d] => { results := [.lit (.bool true)], args := [d] }
  | _ => none }
def parserPairsRow : OpenClaim := { program := "ytmheleifjpfciaadoor", sum := "4ffe29223dbfb22f66274f8c602b9c2d190fcf339c21682a1d97c304f42510f1", func := "limner/limnerlaw07.ParserPairs", spec := "parserPairs", inPlace := ["internal/bytealg.IndexByteString", "internal/bytealg.IndexString"], unfollowed := true, recurses := true, named := ["unicode/utf8.first", "unicode/utf8.acceptRanges", "internal/bytealg.MaxLen"], apart := false, laid := [("unicode/utf8.acceptRanges", laid_unicode_utf8_acceptRanges), ("unicode/utf8.first", laid_unicode_utf8_first)] }
def ParserPairsSaid : Prop := parserPairsRow.holds Tryd.pinned (OpenSpec.ofChange parserPairsSpec)

/-- ITS FALSE NEIGHBOUR: 'it returns false'. Refute it at one input. -/
def parserPairsWrong : ChangeSpec := { name := "parserPairs", fn := fun _ => fun
  | [d] => { results := [.lit (.bool false)], args := [d] }
  | _ => none }
def ParserPairsWrongFalsely : Prop := parserPairsRow.holds Tryd.pinned (OpenSpec.ofChange parserPairsWrong)

/-- 'limnerlaw07.ParserFew': WHATEVER THE INPUT: true; the input reads as it did. -/
def parserFewSpec : ChangeSpec := { name := "parserFew", fn := fun _ => fun
  | [d1, d2] => { results := [.lit (.bool true)], args := [d1, d2] }
  | _ => none }
def parserFewRow : OpenClaim := { program := "ytmheleifjpfciaadoor", sum := "4ffe29223dbfb22f66274f8c602b9c2d190fcf339c21682a1d97c304f42510f1", func := "limner/limnerlaw07.ParserFew", spec := "parserFew", inPlace := ["internal/bytealg.IndexByteString", "internal/bytealg.IndexString"], unfollowed := true, recurses := true, named := ["unicode/utf8.first", "unicode/utf8.acceptRanges", "internal/bytealg.MaxLen"], apart := false, laid := [("unicode/utf8.acceptRanges", laid_unicode_utf8_acceptRanges), ("unicode/utf8.first", laid_unicode_utf8_first)] }
def ParserFewSaid : Prop := parserFewRow.holds Tryd.pinned (OpenSpec.ofChange parserFewSpec)

/-- ITS FALSE NEIGHBOUR: 'it returns false'. Refute it at one input. -/
def parserFewWrong : ChangeSpec := { name := "parserFew", fn := fun _ => fun
  | [d1, d2] => { results := [.lit (.bool false)], args := [d1, d2] }
  | _ => none }
def ParserFewWrongFalsely : Prop := parserFewRow.holds Tryd.pinned (OpenSpec.ofChange parserFewWrong)

/-- 'limnerlaw07.ParserParts': WHATEVER THE INPUT: true; the input reads as it did. -/
def parserPartsSpec : ChangeSpec := { name := "parserParts", fn := fun _ => fun
  | [d] => { results := [.lit (.bool true)], args := [d] }
  | _ => none }
def parserPartsRow : OpenClaim := { program := "ytmheleifjpfciaadoor", sum := "4ffe29223dbfb22f66274f8c602b9c2d190fcf339c21682a1d97c304f42510f1", func := "limner/limnerlaw07.ParserParts", spec := "parserParts", inPlace := ["internal/bytealg.IndexByteString", "internal/bytealg.IndexString"], unfollowed := true, recurses := true, named := ["unicode/utf8.first", "unicode/utf8.acceptRanges", "internal/bytealg.MaxLen"], apart := false, laid := [("unicode/utf8.acceptRanges", laid_unicode_utf8_acceptRanges), ("unicode/utf8.first", laid_unicode_utf8_first)] }
def ParserPartsSaid : Prop := parserPartsRow.holds Tryd.pinned (OpenSpec.ofChange parserPartsSpec)

/-- ITS FALSE NEIGHBOUR: 'it returns false'. Refute it at one input. -/
def parserPartsWrong : ChangeSpec := { name := "parserParts", fn := fun _ => fun
  | [d] => { results := [.lit (.bool false)], args := [d] }
  | _ => none }
def ParserPartsWrongFalsely : Prop := parserPartsRow.holds Tryd.pinned (OpenSpec.ofChange parserPartsWrong)

/-- 'limnerlaw07.ParserControl': WHATEVER THE INPUT: true; the input reads as it did. -/
def parserControlSpec : ChangeSpec := { name := "parserControl", fn := fun _ => fun
  | [d1, d2, d3] => { results := [.lit (.bool true)], args := [d1, d2, d3] }
  | _ => none }
def parserControlRow : OpenClaim := { program := "ytmheleifjpfciaadoor", sum := "4ffe29223dbfb22f66274f8c602b9c2d190fcf339c21682a1d97c304f42510f1", func := "limner/limnerlaw07.ParserControl", spec := "parserControl", inPlace := ["internal/bytealg.IndexByteString", "internal/bytealg.IndexString"], unfollowed := true, recurses := true, named := ["unicode/utf8.first", "unicode/utf8.acceptRanges", "internal/bytealg.MaxLen"], apart := false, laid := [("unicode/utf8.acceptRanges", laid_unicode_utf8_acceptRanges), ("unicode/utf8.first", laid_unicode_utf8_first)] }
def ParserControlSaid : Prop := parserControlRow.holds Tryd.pinned (OpenSpec.ofChange parserControlSpec)

/-- ITS FALSE NEIGHBOUR: 'it returns false'. Refute it at one input. -/
def parserControlWrong : ChangeSpec := { name := "parserControl", fn := fun _ => fun
  | [d1, d2, d3] => { results := [.lit (.bool false)], args := [d1, d2, d3] }
  | _ => none }
def ParserControlWrongFalsely : Prop := parserControlRow.holds Tryd.pinned (OpenSpec.ofChange parserControlWrong)

/- THE SECOND FORM. 'bulk': how many values and letters a reading holds, each counted each time it is reached (what is shared counts as often as it is met; a slice's spare places count too). A statement '..UptoSaid' is the law's where the arguments, and the package variables that the reading takes, are together of bulk at most 1048576: NARROWER than '..Said'. Prove '..Said' where nothing that the law and all that it calls make is longer than what came in: it says more and counts as full. Else prove '..UptoSaid'. A law counts once. -/
mutual
def uptoBulk {H : Type} : DataW H → Nat
  | .lit (.string bytes) => bytes.length + 1
  | .lit _ => 1
  | .nil => 1
  | .ptr d => uptoBulk d + 1
  | .slice elems spare => uptoBulkAll elems + uptoBulkAll spare + 1
  | .agg parts => uptoBulkAll parts + 1
  | .iface _ d => uptoBulk d + 1
  | .map entries => uptoBulkEntries entries + 1
  | .held _ => 1
def uptoBulkAll {H : Type} : List (DataW H) → Nat
  | [] => 0
  | d :: r => uptoBulk d + uptoBulkAll r
def uptoBulkEntries {H : Type} : List (Lit × DataW H) → Nat
  | [] => 0
  | x :: r => uptoBulkEntry x + uptoBulkEntries r
def uptoBulkEntry {H : Type} : Lit × DataW H → Nat
  | (.string bytes, d) => bytes.length + uptoBulk d + 1
  | (_, d) => uptoBulk d + 1
 end
def uptoSmall : (H : Type) → List (DataW H) → Bool := fun _ ds => decide (uptoBulkAll ds ≤ 1048576)
def OpenSpec.upto (s : _root_.Go.ChangeSpec) : _root_.Go.OpenSpec := { _root_.Go.OpenSpec.ofChange s with cond := some uptoSmall }

/-- 'limnerlaw07.ParserTell', WHERE WHAT IT READS IS OF BULK AT MOST 1048576: true; the input reads as it did. -/
def parserTellUptoRow : OpenClaim := { program := "ytmheleifjpfciaadoor", sum := "4ffe29223dbfb22f66274f8c602b9c2d190fcf339c21682a1d97c304f42510f1", func := "limner/limnerlaw07.ParserTell", spec := "parserTell", inPlace := ["internal/bytealg.IndexByteString", "internal/bytealg.IndexString"], unfollowed := true, recurses := true, named := ["unicode/utf8.first", "unicode/utf8.acceptRanges", "internal/bytealg.MaxLen"], apart := false, laid := [("unicode/utf8.acceptRanges", laid_unicode_utf8_acceptRanges), ("unicode/utf8.first", laid_unicode_utf8_first)], narrowed := true }
def ParserTellUptoSaid : Prop := parserTellUptoRow.holds Tryd.pinned (OpenSpec.upto parserTellSpec)

/-- 'limnerlaw07.ParserPairs', WHERE WHAT IT READS IS OF BULK AT MOST 1048576: true; the input reads as it did. -/
def parserPairsUptoRow : OpenClaim := { program := "ytmheleifjpfciaadoor", sum := "4ffe29223dbfb22f66274f8c602b9c2d190fcf339c21682a1d97c304f42510f1", func := "limner/limnerlaw07.ParserPairs", spec := "parserPairs", inPlace := ["internal/bytealg.IndexByteString", "internal/bytealg.IndexString"], unfollowed := true, recurses := true, named := ["unicode/utf8.first", "unicode/utf8.acceptRanges", "internal/bytealg.MaxLen"], apart := false, laid := [("unicode/utf8.acceptRanges", laid_unicode_utf8_acceptRanges), ("unicode/utf8.first", laid_unicode_utf8_first)], narrowed := true }
def ParserPairsUptoSaid : Prop := parserPairsUptoRow.holds Tryd.pinned (OpenSpec.upto parserPairsSpec)

/-- 'limnerlaw07.ParserFew', WHERE WHAT IT READS IS OF BULK AT MOST 1048576: true; the input reads as it did. -/
def parserFewUptoRow : OpenClaim := { program := "ytmheleifjpfciaadoor", sum := "4ffe29223dbfb22f66274f8c602b9c2d190fcf339c21682a1d97c304f42510f1", func := "limner/limnerlaw07.ParserFew", spec := "parserFew", inPlace := ["internal/bytealg.IndexByteString", "internal/bytealg.IndexString"], unfollowed := true, recurses := true, named := ["unicode/utf8.first", "unicode/utf8.acceptRanges", "internal/bytealg.MaxLen"], apart := false, laid := [("unicode/utf8.acceptRanges", laid_unicode_utf8_acceptRanges), ("unicode/utf8.first", laid_unicode_utf8_first)], narrowed := true }
def ParserFewUptoSaid : Prop := parserFewUptoRow.holds Tryd.pinned (OpenSpec.upto parserFewSpec)

/-- 'limnerlaw07.ParserParts', WHERE WHAT IT READS IS OF BULK AT MOST 1048576: true; the input reads as it did. -/
def parserPartsUptoRow : OpenClaim := { program := "ytmheleifjpfciaadoor", sum := "4ffe29223dbfb22f66274f8c602b9c2d190fcf339c21682a1d97c304f42510f1", func := "limner/limnerlaw07.ParserParts", spec := "parserParts", inPlace := ["internal/bytealg.IndexByteString", "internal/bytealg.IndexString"], unfollowed := true, recurses := true, named := ["unicode/utf8.first", "unicode/utf8.acceptRanges", "internal/bytealg.MaxLen"], apart := false, laid := [("unicode/utf8.acceptRanges", laid_unicode_utf8_acceptRanges), ("unicode/utf8.first", laid_unicode_utf8_first)], narrowed := true }
def ParserPartsUptoSaid : Prop := parserPartsUptoRow.holds Tryd.pinned (OpenSpec.upto parserPartsSpec)

/-- 'limnerlaw07.ParserControl', WHERE WHAT IT READS IS OF BULK AT MOST 1048576: true; the input reads as it did. -/
def parserControlUptoRow : OpenClaim := { program := "ytmheleifjpfciaadoor", sum := "4ffe29223dbfb22f66274f8c602b9c2d190fcf339c21682a1d97c304f42510f1", func := "limner/limnerlaw07.ParserControl", spec := "parserControl", inPlace := ["internal/bytealg.IndexByteString", "internal/bytealg.IndexString"], unfollowed := true, recurses := true, named := ["unicode/utf8.first", "unicode/utf8.acceptRanges", "internal/bytealg.MaxLen"], apart := false, laid := [("unicode/utf8.acceptRanges", laid_unicode_utf8_acceptRanges), ("unicode/utf8.first", laid_unicode_utf8_first)], narrowed := true }
def ParserControlUptoSaid : Prop := parserControlUptoRow.holds Tryd.pinned (OpenSpec.upto parserControlSpec)

end Rows
end Go.Proofs.YtmheleifjpfciaaDoor
