/-
  NARROWER THAN 'FOR EVERY INPUT', by the rows' own cells (each row's printed sentence says how): RegsParse: laid · RegsSet: laid · RegsShow: loops, laid · RegsBack: laid · RegsNode: loops, laid · RulesKeep: laid.
  DERIVED. THE GIVEN ROWS OF THIS SEAT. 6 by the template 'for every input the law returns true; each argument reads behind the call as it read before'; 0 by the template 'total and deterministic' (their statements: YtfamoikmfbpigaaDoorTotals.lean).
  GIVEN WITH THE SEED: the statements are not yours to turn. If you find one false, say at which input.
  Laid BY PROGRAM, IN A SANDBOX (cutbox-rows.mjs): the forced cells as the released guide's own fill.sh prints them over the translation 3b3074b12eb333ce… (all of the seat's roots in one cut). By AI agents, Wed Nov 11 2026. No macro, syntax, notation, axiom, sorry.
-/
import Derived.Test.YtfamoikmfbpigaaDoorChecked
import GoSem.Claim
import GoSem.ClaimJoined
import GoSem.ClaimMapViews
import Derived.JoinedTies
import Derived.KernelRfl
namespace Go.Proofs.YtfamoikmfbpigaaDoor
/- THE CELL 'sum', in the pinned program and in every row, IS THE sha256 OF THE DUMP (.gsa) THAT YtfamoikmfbpigaaDoorProg.lean LOADS. Nothing in Lean hashes anything: it is a label: what it is worth is what the hold of that sum in a sandbox is worth. -/
noncomputable def Tryd.pinned : Pinned := { name := "ytfamoikmfbpigaadoor", sum := "3b3074b12eb333ceecb0f5fe4927a41bf4a992096680616c28528fafb5932f74", checked := Tryd.checked }
namespace Rows
def none {H : Type} : Left H := { results := [], args := [] }

/- WHAT THE LISTED PACKAGE-LEVEL VARIABLES READ AS WHEN THE CALL BEGINS. Each datum BY PROGRAM (the guide's laid-datum.mjs) off the statement by which the dump's own 'gosem.cut.vars' lays the variable. In a bare row this is a premise. The card (YtfamoikmfbpigaaDoorCards.lean) ties it to the program's text. -/
def laid_limner_regs_signs {H : Type} : DataW H := .map [(.int .u8 42, .lit (.int .i64 4)), (.int .u8 43, .lit (.int .i64 5)), (.int .u8 63, .lit (.int .i64 6))]
def laid_limner_rules_table {H : Type} : DataW H := .agg [.slice [.agg [.lit (.string [91, 32, 92, 116, 92, 114, 93, 43]), .lit (.int .i64 1), .lit (.int .i64 0)], .agg [.lit (.string [92, 110]), .lit (.int .i64 2), .lit (.int .i64 0)], .agg [.lit (.string [91, 97, 45, 122, 65, 45, 90, 95, 93, 91, 97, 45, 122, 65, 45, 90, 48, 45, 57, 95, 93, 42]), .lit (.int .i64 3), .lit (.int .i64 0)], .agg [.lit (.string [91, 48, 45, 57, 93, 43, 40, 92, 46, 91, 48, 45, 57, 93, 43, 41, 63, 40, 91, 101, 69, 93, 91, 92, 43, 92, 45, 93, 63, 91, 48, 45, 57, 93, 43, 41, 63]), .lit (.int .i64 5), .lit (.int .i64 0)], .agg [.lit (.string [47, 47, 91, 94, 92, 110, 93, 42]), .lit (.int .i64 11), .lit (.int .i64 0)], .agg [.lit (.string [47, 92, 42]), .lit (.int .i64 11), .lit (.int .i64 3)], .agg [.lit (.string [34]), .lit (.int .i64 9), .lit (.int .i64 1)], .agg [.lit (.string [91, 92, 40, 92, 91, 123, 93]), .lit (.int .i64 7), .lit (.int .i64 0)], .agg [.lit (.string [91, 92, 41, 92, 93, 125, 93]), .lit (.int .i64 8), .lit (.int .i64 0)], .agg [.lit (.string [91, 92, 43, 92, 45, 92, 42, 47, 37, 60, 62, 33, 61, 44, 59, 58, 92, 46, 93, 124, 61, 61, 124, 33, 61, 124, 60, 61, 124, 62, 61, 124, 38, 38, 124, 92, 124, 92, 124, 124, 92, 45, 62]), .lit (.int .i64 6), .lit (.int .i64 0)]] [], .slice [.agg [.lit (.string [91, 94, 34, 92, 92, 92, 110, 93, 43]), .lit (.int .i64 9), .lit (.int .i64 0)], .agg [.lit (.string [92, 92, 91, 110, 114, 116, 34, 92, 92, 48, 93]), .lit (.int .i64 10), .lit (.int .i64 0)], .agg [.lit (.string [34]), .lit (.int .i64 9), .lit (.int .i64 2)], .agg [.lit (.string [92, 110]), .lit (.int .i64 9), .lit (.int .i64 0)]] [], .slice [.agg [.lit (.string [47, 92, 42]), .lit (.int .i64 11), .lit (.int .i64 3)], .agg [.lit (.string [92, 42, 47]), .lit (.int .i64 11), .lit (.int .i64 4)], .agg [.lit (.string [91, 94, 92, 42, 47, 93, 43]), .lit (.int .i64 11), .lit (.int .i64 0)], .agg [.lit (.string [91, 92, 42, 47, 93]), .lit (.int .i64 11), .lit (.int .i64 0)]] []]

/-- 'limnerlaw10.RegsParse': WHATEVER THE INPUT: true; the input reads as it did. -/
def regsParseSpec : ChangeSpec := { name := "regsParse", fn := fun _ => fun
  | [d] => { results := [.lit (.bool true)], args := [d] }
  | _ => none }
def regsParseRow : OpenClaim := { program := "ytfamoikmfbpigaadoor", sum := "3b3074b12eb333ceecb0f5fe4927a41bf4a992096680616c28528fafb5932f74", func := "limner/limnerlaw10.RegsParse", spec := "regsParse", inPlace := ["internal/bytealg.IndexByteString", "internal/abi.NoEscape", "internal/bytealg.MakeNoZero"], unfollowed := true, recurses := true, named := ["limner/regs.signs"], apart := false, laid := [("limner/regs.signs", laid_limner_regs_signs)] }
def RegsParseSaid : Prop := regsParseRow.holds Tryd.pinned (OpenSpec.ofChange regsParseSpec)

/-- ITS FALSE NEIGHBOUR: 'it returns false'. Refute it at one input. -/
def regsParseWrong : ChangeSpec := { name := "regsParse", fn := fun _ => fun
  | [d] => { results := [.lit (.bool false)], args := [d] }
  | _ => none }
def RegsParseWrongFalsely : Prop := regsParseRow.holds Tryd.pinned (OpenSpec.ofChange regsParseWrong)

/-- 'limnerlaw10.RegsSet': WHATEVER THE INPUT: true; the input reads as it did. -/
def regsSetSpec : ChangeSpec := { name := "regsSet", fn := fun _ => fun
  | [d1, d2] => { results := [.lit (.bool true)], args := [d1, d2] }
  | _ => none }
def regsSetRow : OpenClaim := { program := "ytfamoikmfbpigaadoor", sum := "3b3074b12eb333ceecb0f5fe4927a41bf4a992096680616c28528fafb5932f74", func := "limner/limnerlaw10.RegsSet", spec := "regsSet", inPlace := ["internal/bytealg.IndexByteString", "internal/abi.NoEscape", "internal/bytealg.MakeNoZero"], unfollowed := true, recurses := true, named := ["limner/regs.signs"], apart := false, laid := [("limner/regs.signs", laid_limner_regs_signs)] }
def RegsSetSaid : Prop := regsSetRow.holds Tryd.pinned (OpenSpec.ofChange regsSetSpec)

/-- ITS FALSE NEIGHBOUR: 'it returns false'. Refute it at one input. -/
def regsSetWrong : ChangeSpec := { name := "regsSet", fn := fun _ => fun
  | [d1, d2] => { results := [.lit (.bool false)], args := [d1, d2] }
  | _ => none }
def RegsSetWrongFalsely : Prop := regsSetRow.holds Tryd.pinned (OpenSpec.ofChange regsSetWrong)

/-- 'limnerlaw10.RegsShow': WHATEVER THE INPUT: true; the input reads as it did. -/
def regsShowSpec : ChangeSpec := { name := "regsShow", fn := fun _ => fun
  | [d1, d2, d3] => { results := [.lit (.bool true)], args := [d1, d2, d3] }
  | _ => none }
def regsShowRow : OpenClaim := { program := "ytfamoikmfbpigaadoor", sum := "3b3074b12eb333ceecb0f5fe4927a41bf4a992096680616c28528fafb5932f74", func := "limner/limnerlaw10.RegsShow", spec := "regsShow", inPlace := ["internal/bytealg.IndexByteString", "internal/abi.NoEscape", "internal/bytealg.MakeNoZero"], unfollowed := true, recurses := true, named := ["limner/regs.signs"], loops := true, apart := false, laid := [("limner/regs.signs", laid_limner_regs_signs)] }
def RegsShowSaid : Prop := regsShowRow.holds Tryd.pinned (OpenSpec.ofChange regsShowSpec)

/-- ITS FALSE NEIGHBOUR: 'it returns false'. Refute it at one input. -/
def regsShowWrong : ChangeSpec := { name := "regsShow", fn := fun _ => fun
  | [d1, d2, d3] => { results := [.lit (.bool false)], args := [d1, d2, d3] }
  | _ => none }
def RegsShowWrongFalsely : Prop := regsShowRow.holds Tryd.pinned (OpenSpec.ofChange regsShowWrong)

/-- 'limnerlaw10.RegsBack': WHATEVER THE INPUT: true; the input reads as it did. -/
def regsBackSpec : ChangeSpec := { name := "regsBack", fn := fun _ => fun
  | [d] => { results := [.lit (.bool true)], args := [d] }
  | _ => none }
def regsBackRow : OpenClaim := { program := "ytfamoikmfbpigaadoor", sum := "3b3074b12eb333ceecb0f5fe4927a41bf4a992096680616c28528fafb5932f74", func := "limner/limnerlaw10.RegsBack", spec := "regsBack", inPlace := ["internal/bytealg.IndexByteString", "internal/abi.NoEscape", "internal/bytealg.MakeNoZero"], unfollowed := true, recurses := true, named := ["limner/regs.signs"], apart := false, laid := [("limner/regs.signs", laid_limner_regs_signs)] }
def RegsBackSaid : Prop := regsBackRow.holds Tryd.pinned (OpenSpec.ofChange regsBackSpec)

/-- ITS FALSE NEIGHBOUR: 'it returns false'. Refute it at one input. -/
def regsBackWrong : ChangeSpec := { name := "regsBack", fn := fun _ => fun
  | [d] => { results := [.lit (.bool false)], args := [d] }
  | _ => none }
def RegsBackWrongFalsely : Prop := regsBackRow.holds Tryd.pinned (OpenSpec.ofChange regsBackWrong)

/-- 'limnerlaw10.RegsNode': WHATEVER THE INPUT: true; the input reads as it did. -/
def regsNodeSpec : ChangeSpec := { name := "regsNode", fn := fun _ => fun
  | [d] => { results := [.lit (.bool true)], args := [d] }
  | _ => none }
def regsNodeRow : OpenClaim := { program := "ytfamoikmfbpigaadoor", sum := "3b3074b12eb333ceecb0f5fe4927a41bf4a992096680616c28528fafb5932f74", func := "limner/limnerlaw10.RegsNode", spec := "regsNode", inPlace := ["internal/bytealg.IndexByteString", "internal/abi.NoEscape", "internal/bytealg.MakeNoZero"], unfollowed := true, recurses := true, named := ["limner/regs.signs"], loops := true, apart := false, laid := [("limner/regs.signs", laid_limner_regs_signs)] }
def RegsNodeSaid : Prop := regsNodeRow.holds Tryd.pinned (OpenSpec.ofChange regsNodeSpec)

/-- ITS FALSE NEIGHBOUR: 'it returns false'. Refute it at one input. -/
def regsNodeWrong : ChangeSpec := { name := "regsNode", fn := fun _ => fun
  | [d] => { results := [.lit (.bool false)], args := [d] }
  | _ => none }
def RegsNodeWrongFalsely : Prop := regsNodeRow.holds Tryd.pinned (OpenSpec.ofChange regsNodeWrong)

/-- 'limnerlaw13.RulesKeep': WHATEVER THE INPUT: true; the input reads as it did. -/
def rulesKeepSpec : ChangeSpec := { name := "rulesKeep", fn := fun _ => fun
  | [d] => { results := [.lit (.bool true)], args := [d] }
  | _ => none }
def rulesKeepRow : OpenClaim := { program := "ytfamoikmfbpigaadoor", sum := "3b3074b12eb333ceecb0f5fe4927a41bf4a992096680616c28528fafb5932f74", func := "limner/limnerlaw13.RulesKeep", spec := "rulesKeep", inPlace := ["internal/bytealg.IndexByteString", "internal/bytealg.IndexString"], unfollowed := true, recurses := true, named := ["limner/rules.table", "internal/bytealg.MaxLen", "limner/regs.signs"], apart := false, laid := [("limner/regs.signs", laid_limner_regs_signs), ("limner/rules.table", laid_limner_rules_table)] }
def RulesKeepSaid : Prop := rulesKeepRow.holds Tryd.pinned (OpenSpec.ofChange rulesKeepSpec)

/-- ITS FALSE NEIGHBOUR: 'it returns false'. Refute it at one input. -/
def rulesKeepWrong : ChangeSpec := { name := "rulesKeep", fn := fun _ => fun
  | [d] => { results := [.lit (.bool false)], args := [d] }
  | _ => none }
def RulesKeepWrongFalsely : Prop := rulesKeepRow.holds Tryd.pinned (OpenSpec.ofChange rulesKeepWrong)

/- THE SECOND FORM. 'bulk': how many values and letters a reading holds, each counted each time it is reached (what is shared counts as often as it is met; a slice's spare places count too). A statement '..UptoSaid' is the law's where the arguments, and the package variables that the reading takes, are together of bulk at most 1048576: NARROWER than '..Said'. Prove '..Said' where nothing that the law and all that it calls make is longer than what came in: it says more and counts as full. Else prove '..UptoSaid'. A law counts once. -/
mutual
def uptoBulk {H : Type} : DataW H → Nat
  | .lit (.string bytes) => bytes.length + 1
  | .lit _ => 1
  | .nil => 1
  | .ptr d => uptoBulk d + 1
  | .slice elems spare => uptoBulkAll elems + uptoBulkAll spare + 1
  | .agg parts => uptoBulkAll parts + 1
  | .iface _ d => uptoBulk d + 1
  | .map entries => uptoBulkEntries entries + 1
  | .held _ => 1
def uptoBulkAll {H : Type} : List (DataW H) → Nat
  | [] => 0
  | d :: r => uptoBulk d + uptoBulkAll r
def uptoBulkEntries {H : Type} : List (Lit × DataW H) → Nat
  | [] => 0
  | x :: r => uptoBulkEntry x + uptoBulkEntries r
def uptoBulkEntry {H : Type} : Lit × DataW H → Nat
  | (.string bytes, d) => bytes.length + uptoBulk d + 1
  | (_, d) => uptoBulk d + 1
 end
def uptoSmall : (H : Type) → List (DataW H) → Bool := fun _ ds => decide (uptoBulkAll ds ≤ 1048576)
def OpenSpec.upto (s : _root_.Go.ChangeSpec) : _root_.Go.OpenSpec := { _root_.Go.OpenSpec.ofChange s with cond := some uptoSmall }

/-- 'limnerlaw10.RegsParse', WHERE WHAT IT READS IS OF BULK AT MOST 1048576: true; the input reads as it did. -/
def regsParseUptoRow : OpenClaim := { program := "ytfamoikmfbpigaadoor", sum := "3b3074b12eb333ceecb0f5fe4927a41bf4a992096680616c28528fafb5932f74", func := "limner/limnerlaw10.RegsParse", spec := "regsParse", inPlace := ["internal/bytealg.IndexByteString", "internal/abi.NoEscape", "internal/bytealg.MakeNoZero"], unfollowed := true, recurses := true, named := ["limner/regs.signs"], apart := false, laid := [("limner/regs.signs", laid_limner_regs_signs)], narrowed := true }
def RegsParseUptoSaid : Prop := regsParseUptoRow.holds Tryd.pinned (OpenSpec.upto regsParseSpec)

/-- 'limnerlaw10.RegsSet', WHERE WHAT IT READS IS OF BULK AT MOST 1048576: true; the input reads as it did. -/
def regsSetUptoRow : OpenClaim := { program := "ytfamoikmfbpigaadoor", sum := "3b3074b12eb333ceecb0f5fe4927a41bf4a992096680616c28528fafb5932f74", func := "limner/limnerlaw10.RegsSet", spec := "regsSet", inPlace := ["internal/bytealg.IndexByteString", "internal/abi.NoEscape", "internal/bytealg.MakeNoZero"], unfollowed := true, recurses := true, named := ["limner/regs.signs"], apart := false, laid := [("limner/regs.signs", laid_limner_regs_signs)], narrowed := true }
def RegsSetUptoSaid : Prop := regsSetUptoRow.holds Tryd.pinned (OpenSpec.upto regsSetSpec)

/-- 'limnerlaw10.RegsShow', WHERE WHAT IT READS IS OF BULK AT MOST 1048576: true; the input reads as it did. -/
def regsShowUptoRow : OpenClaim := { program := "ytfamoikmfbpigaadoor", sum := "3b3074b12eb333ceecb0f5fe4927a41bf4a992096680616c28528fafb5932f74", func := "limner/limnerlaw10.RegsShow", spec := "regsShow", inPlace := ["internal/bytealg.IndexByteString", "internal/abi.NoEscape", "internal/bytealg.MakeNoZero"], unfollowed := true, recurses := true, named := ["limner/regs.signs"], loops := true, apart := false, laid := [("limner/regs.signs", laid_limner_regs_signs)], narrowed := true }
def RegsShowUptoSaid : Prop := regsShowUptoRow.holds Tryd.pinned (OpenSpec.upto regsShowSpec)

/-- 'limnerlaw10.RegsBack', WHERE WHAT IT READS IS OF BULK AT MOST 1048576: true; the input reads as it did. -/
def regsBackUptoRow : OpenClaim := { program := "ytfamoikmfbpigaadoor", sum := "3b3074b12eb333ceecb0f5fe4927a41bf4a992096680616c28528fafb5932f74", func := "limner/limnerlaw10.RegsBack", spec := "regsBack", inPlace := ["internal/bytealg.IndexByteString", "internal/abi.NoEscape", "internal/bytealg.MakeNoZero"], unfollowed := true, recurses := true, named := ["limner/regs.signs"], apart := false, laid := [("limner/regs.signs", laid_limner_regs_signs)], narrowed := true }
def RegsBackUptoSaid : Prop := regsBackUptoRow.holds Tryd.pinned (OpenSpec.upto regsBackSpec)

/-- 'limnerlaw10.RegsNode', WHERE WHAT IT READS IS OF BULK AT MOST 1048576: true; the input reads as it did. -/
def regsNodeUptoRow : OpenClaim := { program := "ytfamoikmfbpigaadoor", sum := "3b3074b12eb333ceecb0f5fe4927a41bf4a992096680616c28528fafb5932f74", func := "limner/limnerlaw10.RegsNode", spec := "regsNode", inPlace := ["internal/bytealg.IndexByteString", "internal/abi.NoEscape", "internal/bytealg.MakeNoZero"], unfollowed := true, recurses := true, named := ["limner/regs.signs"], loops := true, apart := false, laid := [("limner/regs.signs", laid_limner_regs_signs)], narrowed := true }
def RegsNodeUptoSaid : Prop := regsNodeUptoRow.holds Tryd.pinned (OpenSpec.upto regsNodeSpec)

/-- 'limnerlaw13.RulesKeep', WHERE WHAT IT READS IS OF BULK AT MOST 1048576: true; the input reads as it did. -/
def rulesKeepUptoRow : OpenClaim := { program := "ytfamoikmfbpigaadoor", sum := "3b3074b12eb333ceecb0f5fe4927a41bf4a992096680616c28528fafb5932f74", func := "limner/limnerlaw13.RulesKeep", spec := "rulesKeep", inPlace := ["internal/bytealg.IndexByteString", "internal/bytealg.IndexString"], unfollowed := true, recurses := true, named := ["limner/rules.table", "internal/bytealg.MaxLen", "limner/regs.signs"], apart := false, laid := [("limner/regs.signs", laid_limner_regs_signs), ("limner/rules.table", laid_limner_rules_table)], narrowed := true }
def RulesKeepUptoSaid : Prop := rulesKeepUptoRow.holds Tryd.pinned (OpenSpec.upto rulesKeepSpec)

end Rows
end Go.Proofs.YtfamoikmfbpigaaDoor
