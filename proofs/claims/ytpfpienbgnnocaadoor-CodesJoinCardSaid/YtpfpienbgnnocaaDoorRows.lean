/-
  NARROWER THAN 'FOR EVERY INPUT', by the rows' own cells (each row's printed sentence says how): CodesNext: laid · CodesList: laid · CodesPut: laid · CodesBack: laid · CodesParts: laid · CodesJoin: laid.
  DERIVED. THE GIVEN ROWS OF THIS SEAT. 6 by the template 'for every input the law returns true; each argument reads behind the call as it read before'; 0 by the template 'total and deterministic' (their statements: YtpfpienbgnnocaaDoorTotals.lean).
  GIVEN WITH THE SEED: the statements are not yours to turn. If you find one false, say at which input.
  Laid BY PROGRAM, IN A SANDBOX (cutbox-rows.mjs): the forced cells as the released guide's own fill.sh prints them over the translation 9d4531738f3d2e37… (all of the seat's roots in one cut). By AI agents, Wed Nov 11 2026. No macro, syntax, notation, axiom, sorry.
-/
import Derived.Test.YtpfpienbgnnocaaDoorChecked
import GoSem.PinnedTables
import GoSem.Claim
import GoSem.ClaimJoined
import GoSem.ClaimMapViews
import Derived.JoinedTies
import Derived.KernelRfl
namespace Go.Proofs.YtpfpienbgnnocaaDoor
/- THE CELL 'sum', in the pinned program and in every row, IS THE sha256 OF THE DUMP (.gsa) THAT YtpfpienbgnnocaaDoorProg.lean LOADS. Nothing in Lean hashes anything: it is a label: what it is worth is what the hold of that sum in a sandbox is worth. -/
noncomputable def Tryd.pinned : Pinned := { name := "ytpfpienbgnnocaadoor", sum := "9d4531738f3d2e373cbfcdfd474fc6c384b4631e7432933eaf6c0c1523914d94", checked := Tryd.checked }
namespace Rows
def none {H : Type} : Left H := { results := [], args := [] }

/- WHAT THE LISTED PACKAGE-LEVEL VARIABLES READ AS WHEN THE CALL BEGINS. Each datum BY PROGRAM (the guide's laid-datum.mjs) off the statement by which the dump's own 'gosem.cut.vars' lays the variable. In a bare row this is a premise. The card (YtpfpienbgnnocaaDoorCards.lean) ties it to the program's text. -/
def laid_unicode_utf8_acceptRanges {H : Type} : DataW H := .agg [.agg [.lit (.int .u8 128), .lit (.int .u8 191)], .agg [.lit (.int .u8 160), .lit (.int .u8 191)], .agg [.lit (.int .u8 128), .lit (.int .u8 159)], .agg [.lit (.int .u8 144), .lit (.int .u8 191)], .agg [.lit (.int .u8 128), .lit (.int .u8 143)], .agg [.lit (.int .u8 0), .lit (.int .u8 0)], .agg [.lit (.int .u8 0), .lit (.int .u8 0)], .agg [.lit (.int .u8 0), .lit (.int .u8 0)], .agg [.lit (.int .u8 0), .lit (.int .u8 0)], .agg [.lit (.int .u8 0), .lit (.int .u8 0)], .agg [.lit (.int .u8 0), .lit (.int .u8 0)], .agg [.lit (.int .u8 0), .lit (.int .u8 0)], .agg [.lit (.int .u8 0), .lit (.int .u8 0)], .agg [.lit (.int .u8 0), .lit (.int .u8 0)], .agg [.lit (.int .u8 0), .lit (.int .u8 0)], .agg [.lit (.int .u8 0), .lit (.int .u8 0)]]
/-- One of Go's own tables, pinned by name: the form's constant. -/
def laid_unicode_utf8_first : DataW Unit := Go.Pinned.utf8First

/-- 'limnerlaw01.CodesNext': WHATEVER THE INPUT: true; the input reads as it did. -/
def codesNextSpec : ChangeSpec := { name := "codesNext", fn := fun _ => fun
  | [d1, d2] => { results := [.lit (.bool true)], args := [d1, d2] }
  | _ => none }
def codesNextRow : OpenClaim := { program := "ytpfpienbgnnocaadoor", sum := "9d4531738f3d2e373cbfcdfd474fc6c384b4631e7432933eaf6c0c1523914d94", func := "limner/limnerlaw01.CodesNext", spec := "codesNext", named := ["unicode/utf8.first", "unicode/utf8.acceptRanges"], apart := false, laid := [("unicode/utf8.acceptRanges", laid_unicode_utf8_acceptRanges), ("unicode/utf8.first", laid_unicode_utf8_first)] }
def CodesNextSaid : Prop := codesNextRow.holds Tryd.pinned (OpenSpec.ofChange codesNextSpec)

/-- ITS FALSE NEIGHBOUR: 'it returns false'. Refute it at one input. -/
def codesNextWrong : ChangeSpec := { name := "codesNext", fn := fun _ => fun
  | [d1, d2] => { results := [.lit (.bool false)], args := [d1, d2] }
  | _ => none }
def CodesNextWrongFalsely : Prop := codesNextRow.holds Tryd.pinned (OpenSpec.ofChange codesNextWrong)

/-- 'limnerlaw01.CodesList': WHATEVER THE INPUT: true; the input reads as it did. -/
def codesListSpec : ChangeSpec := { name := "codesList", fn := fun _ => fun
  | [d] => { results := [.lit (.bool true)], args := [d] }
  | _ => none }
def codesListRow : OpenClaim := { program := "ytpfpienbgnnocaadoor", sum := "9d4531738f3d2e373cbfcdfd474fc6c384b4631e7432933eaf6c0c1523914d94", func := "limner/limnerlaw01.CodesList", spec := "codesList", named := ["unicode/utf8.first", "unicode/utf8.acceptRanges"], apart := false, laid := [("unicode/utf8.acceptRanges", laid_unicode_utf8_acceptRanges), ("unicode/utf8.first", laid_unicode_utf8_first)] }
def CodesListSaid : Prop := codesListRow.holds Tryd.pinned (OpenSpec.ofChange codesListSpec)

/-- ITS FALSE NEIGHBOUR: 'it returns false'. Refute it at one input. -/
def codesListWrong : ChangeSpec := { name := "codesList", fn := fun _ => fun
  | [d] => { results := [.lit (.bool false)], args := [d] }
  | _ => none }
def CodesListWrongFalsely : Prop := codesListRow.holds Tryd.pinned (OpenSpec.ofChange codesListWrong)

/-- 'limnerlaw01.CodesPut': WHATEVER THE INPUT: true; the input reads as it did. -/
def codesPutSpec : ChangeSpec := { name := "codesPut", fn := fun _ => fun
  | [d] => { results := [.lit (.bool true)], args := [d] }
  | _ => none }
def codesPutRow : OpenClaim := { program := "ytpfpienbgnnocaadoor", sum := "9d4531738f3d2e373cbfcdfd474fc6c384b4631e7432933eaf6c0c1523914d94", func := "limner/limnerlaw01.CodesPut", spec := "codesPut", named := ["unicode/utf8.first", "unicode/utf8.acceptRanges"], apart := false, laid := [("unicode/utf8.acceptRanges", laid_unicode_utf8_acceptRanges), ("unicode/utf8.first", laid_unicode_utf8_first)] }
def CodesPutSaid : Prop := codesPutRow.holds Tryd.pinned (OpenSpec.ofChange codesPutSpec)

/-- ITS FALSE NEIGHBOUR: 'it returns false'. Refute it at one input. -/
def codesPutWrong : ChangeSpec := { name := "codesPut", fn := fun _ => fun
  | [d] => { results := [.lit (.bool false)], args := [d] }
  | _ => none }
def CodesPutWrongFalsely : Prop := codesPutRow.holds Tryd.pinned (OpenSpec.ofChange codesPutWrong)

/-- 'limnerlaw01.CodesBack': WHATEVER THE INPUT: true; the input reads as it did. -/
def codesBackSpec : ChangeSpec := { name := "codesBack", fn := fun _ => fun
  | [d1, d2, d3] => { results := [.lit (.bool true)], args := [d1, d2, d3] }
  | _ => none }
def codesBackRow : OpenClaim := { program := "ytpfpienbgnnocaadoor", sum := "9d4531738f3d2e373cbfcdfd474fc6c384b4631e7432933eaf6c0c1523914d94", func := "limner/limnerlaw01.CodesBack", spec := "codesBack", named := ["unicode/utf8.first", "unicode/utf8.acceptRanges"], apart := false, laid := [("unicode/utf8.acceptRanges", laid_unicode_utf8_acceptRanges), ("unicode/utf8.first", laid_unicode_utf8_first)] }
def CodesBackSaid : Prop := codesBackRow.holds Tryd.pinned (OpenSpec.ofChange codesBackSpec)

/-- ITS FALSE NEIGHBOUR: 'it returns false'. Refute it at one input. -/
def codesBackWrong : ChangeSpec := { name := "codesBack", fn := fun _ => fun
  | [d1, d2, d3] => { results := [.lit (.bool false)], args := [d1, d2, d3] }
  | _ => none }
def CodesBackWrongFalsely : Prop := codesBackRow.holds Tryd.pinned (OpenSpec.ofChange codesBackWrong)

/-- 'limnerlaw01.CodesParts': WHATEVER THE INPUT: true; the input reads as it did. -/
def codesPartsSpec : ChangeSpec := { name := "codesParts", fn := fun _ => fun
  | [d] => { results := [.lit (.bool true)], args := [d] }
  | _ => none }
def codesPartsRow : OpenClaim := { program := "ytpfpienbgnnocaadoor", sum := "9d4531738f3d2e373cbfcdfd474fc6c384b4631e7432933eaf6c0c1523914d94", func := "limner/limnerlaw01.CodesParts", spec := "codesParts", named := ["unicode/utf8.first", "unicode/utf8.acceptRanges"], apart := false, laid := [("unicode/utf8.acceptRanges", laid_unicode_utf8_acceptRanges), ("unicode/utf8.first", laid_unicode_utf8_first)] }
def CodesPartsSaid : Prop := codesPartsRow.holds Tryd.pinned (OpenSpec.ofChange codesPartsSpec)

/-- ITS FALSE NEIGHBOUR: 'it returns false'. Refute it at one input. -/
def codesPartsWrong : ChangeSpec := { name := "codesParts", fn := fun _ => fun
  | [d] => { results := [.lit (.bool false)], args := [d] }
  | _ => none }
def CodesPartsWrongFalsely : Prop := codesPartsRow.holds Tryd.pinned (OpenSpec.ofChange codesPartsWrong)

/-- 'limnerlaw01.CodesJoin': WHATEVER THE INPUT: true; the input reads as it did. -/
def codesJoinSpec : ChangeSpec := { name := "codesJoin", fn := fun _ => fun
  | [d1, d2] => { results := [.lit (.bool true)], args := [d1, d2] }
  | _ => none }
def codesJoinRow : OpenClaim := { program := "ytpfpienbgnnocaadoor", sum := "9d4531738f3d2e373cbfcdfd474fc6c384b4631e7432933eaf6c0c1523914d94", func := "limner/limnerlaw01.CodesJoin", spec := "codesJoin", named := ["unicode/utf8.first", "unicode/utf8.acceptRanges"], apart := false, laid := [("unicode/utf8.acceptRanges", laid_unicode_utf8_acceptRanges), ("unicode/utf8.first", laid_unicode_utf8_first)] }
def CodesJoinSaid : Prop := codesJoinRow.holds Tryd.pinned (OpenSpec.ofChange codesJoinSpec)

/-- ITS FALSE NEIGHBOUR: 'it returns false'. Refute it at one input. -/
def codesJoinWrong : ChangeSpec := { name := "codesJoin", fn := fun _ => fun
  | [d1, d2] => { results := [.lit (.bool false)], args := [d1, d2] }
  | _ => none }
def CodesJoinWrongFalsely : Prop := codesJoinRow.holds Tryd.pinned (OpenSpec.ofChange codesJoinWrong)

/- THE SECOND FORM. 'bulk': how many values and letters a reading holds, each counted each time it is reached (what is shared counts as often as it is met; a slice's spare places count too). A statement '..UptoSaid' is the law's where the arguments, and the package variables that the reading takes, are together of bulk at most 1048576: NARROWER than '..Said'. Prove '..Said' where nothing that the law and all that it calls make is longer than what came in: it says more and counts as full. Else prove '..UptoSaid'. A law counts once. -/
mutual
def uptoBulk {H : Type} : DataW H → Nat
  | .lit (.string bytes) => bytes.length + 1
  | .lit _ => 1
  | .nil => 1
  | .ptr d => uptoBulk d + 1
  | .slice elems spare => uptoBulkAll elems + uptoBulkAll spare + 1
  | .agg parts => uptoBulkAll parts + 1
  | .iface _ d => uptoBulk d + 1
  | .map entries => uptoBulkEntries entries + 1
  | .held _ => 1
def uptoBulkAll {H : Type} : List (DataW H) → Nat
  | [] => 0
  | d :: r => uptoBulk d + uptoBulkAll r
def uptoBulkEntries {H : Type} : List (Lit × DataW H) → Nat
  | [] => 0
  | x :: r => uptoBulkEntry x + uptoBulkEntries r
def uptoBulkEntry {H : Type} : Lit × DataW H → Nat
  | (.string bytes, d) => bytes.length + uptoBulk d + 1
  | (_, d) => uptoBulk d + 1
 end
def uptoSmall : (H : Type) → List (DataW H) → Bool := fun _ ds => decide (uptoBulkAll ds ≤ 1048576)
def OpenSpec.upto (s : _root_.Go.ChangeSpec) : _root_.Go.OpenSpec := { _root_.Go.OpenSpec.ofChange s with cond := some uptoSmall }

/-- 'limnerlaw01.CodesNext', WHERE WHAT IT READS IS OF BULK AT MOST 1048576: true; the input reads as it did. -/
def codesNextUptoRow : OpenClaim := { program := "ytpfpienbgnnocaadoor", sum := "9d4531738f3d2e373cbfcdfd474fc6c384b4631e7432933eaf6c0c1523914d94", func := "limner/limnerlaw01.CodesNext", spec := "codesNext", named := ["unicode/utf8.first", "unicode/utf8.acceptRanges"], apart := false, laid := [("unicode/utf8.acceptRanges", laid_unicode_utf8_acceptRanges), ("unicode/utf8.first", laid_unicode_utf8_first)], narrowed := true }
def CodesNextUptoSaid : Prop := codesNextUptoRow.holds Tryd.pinned (OpenSpec.upto codesNextSpec)

/-- 'limnerlaw01.CodesList', WHERE WHAT IT READS IS OF BULK AT MOST 1048576: true; the input reads as it did. -/
def codesListUptoRow : OpenClaim := { program := "ytpfpienbgnnocaadoor", sum := "9d4531738f3d2e373cbfcdfd474fc6c384b4631e7432933eaf6c0c1523914d94", func := "limner/limnerlaw01.CodesList", spec := "codesList", named := ["unicode/utf8.first", "unicode/utf8.acceptRanges"], apart := false, laid := [("unicode/utf8.acceptRanges", laid_unicode_utf8_acceptRanges), ("unicode/utf8.first", laid_unicode_utf8_first)], narrowed := true }
def CodesListUptoSaid : Prop := codesListUptoRow.holds Tryd.pinned (OpenSpec.upto codesListSpec)

/-- 'limnerlaw01.CodesPut', WHERE WHAT IT READS IS OF BULK AT MOST 1048576: true; the input reads as it did. -/
def codesPutUptoRow : OpenClaim := { program := "ytpfpienbgnnocaadoor", sum := "9d4531738f3d2e373cbfcdfd474fc6c384b4631e7432933eaf6c0c1523914d94", func := "limner/limnerlaw01.CodesPut", spec := "codesPut", named := ["unicode/utf8.first", "unicode/utf8.acceptRanges"], apart := false, laid := [("unicode/utf8.acceptRanges", laid_unicode_utf8_acceptRanges), ("unicode/utf8.first", laid_unicode_utf8_first)], narrowed := true }
def CodesPutUptoSaid : Prop := codesPutUptoRow.holds Tryd.pinned (OpenSpec.upto codesPutSpec)

/-- 'limnerlaw01.CodesBack', WHERE WHAT IT READS IS OF BULK AT MOST 1048576: true; the input reads as it did. -/
def codesBackUptoRow : OpenClaim := { program := "ytpfpienbgnnocaadoor", sum := "9d4531738f3d2e373cbfcdfd474fc6c384b4631e7432933eaf6c0c1523914d94", func := "limner/limnerlaw01.CodesBack", spec := "codesBack", named := ["unicode/utf8.first", "unicode/utf8.acceptRanges"], apart := false, laid := [("unicode/utf8.acceptRanges", laid_unicode_utf8_acceptRanges), ("unicode/utf8.first", laid_unicode_utf8_first)], narrowed := true }
def CodesBackUptoSaid : Prop := codesBackUptoRow.holds Tryd.pinned (OpenSpec.upto codesBackSpec)

/-- 'limnerlaw01.CodesParts', WHERE WHAT IT READS IS OF BULK AT MOST 1048576: true; the input reads as it did. -/
def codesPartsUptoRow : OpenClaim := { program := "ytpfpienbgnnocaadoor", sum := "9d4531738f3d2e373cbfcdfd474fc6c384b4631e7432933eaf6c0c1523914d94", func := "limner/limnerlaw01.CodesParts", spec := "codesParts", named := ["unicode/utf8.first", "unicode/utf8.acceptRanges"], apart := false, laid := [("unicode/utf8.acceptRanges", laid_unicode_utf8_acceptRanges), ("unicode/utf8.first", laid_unicode_utf8_first)], narrowed := true }
def CodesPartsUptoSaid : Prop := codesPartsUptoRow.holds Tryd.pinned (OpenSpec.upto codesPartsSpec)

/-- 'limnerlaw01.CodesJoin', WHERE WHAT IT READS IS OF BULK AT MOST 1048576: true; the input reads as it did. -/
def codesJoinUptoRow : OpenClaim := { program := "ytpfpienbgnnocaadoor", sum := "9d4531738f3d2e373cbfcdfd474fc6c384b4631e7432933eaf6c0c1523914d94", func := "limner/limnerlaw01.CodesJoin", spec := "codesJoin", named := ["unicode/utf8.first", "unicode/utf8.acceptRanges"], apart := false, laid := [("unicode/utf8.acceptRanges", laid_unicode_utf8_acceptRanges), ("unicode/utf8.first", laid_unicode_utf8_first)], narrowed := true }
def CodesJoinUptoSaid : Prop := codesJoinUptoRow.holds Tryd.pinned (OpenSpec.upto codesJoinSpec)

end Rows
end Go.Proofs.YtpfpienbgnnocaaDoor
