/-
  No cell of these rows narrows 'for every input' (looked for: loops, veiled, ifaces, maps, wideKeys, modest, calm, conditions, laid).
  DERIVED. THE GIVEN ROWS OF THIS SEAT. 4 by the template 'for every input the law returns true; each argument reads behind the call as it read before'; 0 by the template 'total and deterministic' (their statements: YtkmcfcpockpadaaTotals.lean).
  GIVEN WITH THE SEED: the statements are not yours to turn. If you find one false, say at which input.
  Laid BY PROGRAM, IN A SANDBOX (cutbox-rows.mjs): the forced cells as the released guide's own fill.sh prints them over the translation 69c915cafb1a90fe… (all of the seat's roots in one cut). By AI agents, Wed Nov 11 2026. No macro, syntax, notation, axiom, sorry.
-/
import Derived.Test.YtkmcfcpockpadaaChecked
import GoSem.Claim
import GoSem.ClaimJoined
import GoSem.ClaimMapViews
import Derived.JoinedTies
import Derived.KernelRfl
namespace Go.Proofs.Ytkmcfcpockpadaa
/- THE CELL 'sum', in the pinned program and in every row, IS THE sha256 OF THE DUMP (.gsa) THAT YtkmcfcpockpadaaProg.lean LOADS. Nothing in Lean hashes anything: it is a label: what it is worth is what the hold of that sum in a sandbox is worth. -/
noncomputable def Try.pinned : Pinned := { name := "ytkmcfcpockpadaa", sum := "69c915cafb1a90fef363fa7b2194c85a27ebb2d44fd85d37f16f40e9ddb6a032", checked := Try.checked }
namespace Rows
def none {H : Type} : Left H := { results := [], args := [] }

/-- 'limnerlaw04.PlacesTell': WHATEVER THE INPUT: true; the input reads as it did. -/
def placesTellSpec : ChangeSpec := { name := "placesTell", fn := fun _ => fun
  | [d1, d2, d3] => { results := [.lit (.bool true)], args := [d1, d2, d3] }
  | _ => none }
def placesTellRow : OpenClaim := { program := "ytkmcfcpockpadaa", sum := "69c915cafb1a90fef363fa7b2194c85a27ebb2d44fd85d37f16f40e9ddb6a032", func := "limner/limnerlaw04.PlacesTell", spec := "placesTell", inPlace := ["internal/bytealg.CountString", "internal/bytealg.IndexByteString", "internal/bytealg.IndexString"], unfollowed := true, recurses := true, named := ["internal/bytealg.MaxLen"], apart := false }
def PlacesTellSaid : Prop := placesTellRow.holds Try.pinned (OpenSpec.ofChange placesTellSpec)

/-- ITS FALSE NEIGHBOUR: 'it returns false'. Refute it at one input. -/
def placesTellWrong : ChangeSpec := { name := "placesTell", fn := fun _ => fun
  | [d1, d2, d3] => { results := [.lit (.bool false)], args := [d1, d2, d3] }
  | _ => none }
def PlacesTellWrongFalsely : Prop := placesTellRow.holds Try.pinned (OpenSpec.ofChange placesTellWrong)

/-- 'limnerlaw04.PlacesBack': WHATEVER THE INPUT: true; the input reads as it did. -/
def placesBackSpec : ChangeSpec := { name := "placesBack", fn := fun _ => fun
  | [d1, d2] => { results := [.lit (.bool true)], args := [d1, d2] }
  | _ => none }
def placesBackRow : OpenClaim := { program := "ytkmcfcpockpadaa", sum := "69c915cafb1a90fef363fa7b2194c85a27ebb2d44fd85d37f16f40e9ddb6a032", func := "limner/limnerlaw04.PlacesBack", spec := "placesBack", inPlace := ["internal/bytealg.CountString", "internal/bytealg.IndexByteString", "internal/bytealg.IndexString"], unfollowed := true, recurses := true, named := ["internal/bytealg.MaxLen"], apart := false }
def PlacesBackSaid : Prop := placesBackRow.holds Try.pinned (OpenSpec.ofChange placesBackSpec)

/-- ITS FALSE NEIGHBOUR: 'it returns false'. Refute it at one input. -/
def placesBackWrong : ChangeSpec := { name := "placesBack", fn := fun _ => fun
  | [d1, d2] => { results := [.lit (.bool false)], args := [d1, d2] }
  | _ => none }
def PlacesBackWrongFalsely : Prop := placesBackRow.holds Try.pinned (OpenSpec.ofChange placesBackWrong)

/-- 'limnerlaw04.PlacesRunes': WHATEVER THE INPUT: true; the input reads as it did. -/
def placesRunesSpec : ChangeSpec := { name := "placesRunes", fn := fun _ => fun
  | [d] => { results := [.lit (.bool true)], args := [d] }
  | _ => none }
def placesRunesRow : OpenClaim := { program := "ytkmcfcpockpadaa", sum := "69c915cafb1a90fef363fa7b2194c85a27ebb2d44fd85d37f16f40e9ddb6a032", func := "limner/limnerlaw04.PlacesRunes", spec := "placesRunes", inPlace := ["internal/bytealg.CountString", "internal/bytealg.IndexByteString", "internal/bytealg.IndexString"], unfollowed := true, recurses := true, named := ["internal/bytealg.MaxLen"], apart := false }
def PlacesRunesSaid : Prop := placesRunesRow.holds Try.pinned (OpenSpec.ofChange placesRunesSpec)

/-- ITS FALSE NEIGHBOUR: 'it returns false'. Refute it at one input. -/
def placesRunesWrong : ChangeSpec := { name := "placesRunes", fn := fun _ => fun
  | [d] => { results := [.lit (.bool false)], args := [d] }
  | _ => none }
def PlacesRunesWrongFalsely : Prop := placesRunesRow.holds Try.pinned (OpenSpec.ofChange placesRunesWrong)

/-- 'limnerlaw04.PlacesLines': WHATEVER THE INPUT: true; the input reads as it did. -/
def placesLinesSpec : ChangeSpec := { name := "placesLines", fn := fun _ => fun
  | [d] => { results := [.lit (.bool true)], args := [d] }
  | _ => none }
def placesLinesRow : OpenClaim := { program := "ytkmcfcpockpadaa", sum := "69c915cafb1a90fef363fa7b2194c85a27ebb2d44fd85d37f16f40e9ddb6a032", func := "limner/limnerlaw04.PlacesLines", spec := "placesLines", inPlace := ["internal/bytealg.CountString", "internal/bytealg.IndexByteString", "internal/bytealg.IndexString"], unfollowed := true, recurses := true, named := ["internal/bytealg.MaxLen"], apart := false }
def PlacesLinesSaid : Prop := placesLinesRow.holds Try.pinned (OpenSpec.ofChange placesLinesSpec)

/-- ITS FALSE NEIGHBOUR: 'it returns false'. Refute it at one input. -/
def placesLinesWrong : ChangeSpec := { name := "placesLines", fn := fun _ => fun
  | [d] => { results := [.lit (.bool false)], args := [d] }
  | _ => none }
def PlacesLinesWrongFalsely : Prop := placesLinesRow.holds Try.pinned (OpenSpec.ofChange placesLinesWrong)

/- THE SECOND FORM. 'bulk': how many values and letters a reading holds, each counted each time it is reached (what is shared counts as often as it is met; a slice's spare places count too). A statement '..UptoSaid' is the law's where the arguments, and the package variables that the reading takes, are together of bulk at most 1048576: NARROWER than '..Said'. Prove '..Said' where nothing that the law and all that it calls make is longer than what came in: it says more and counts as full. Else prove '..UptoSaid'. A law counts once. -/
mutual
def uptoBulk {H : Type} : DataW H → Nat
  | .lit (.string bytes) => bytes.length + 1
  | .lit _ => 1
  | .nil => 1
  | .ptr d => uptoBulk d + 1
  | .slice elems spare => uptoBulkAll elems + uptoBulkAll spare + 1
  | .agg parts => uptoBulkAll parts + 1
  | .iface _ d => uptoBulk d + 1
  | .map entries => uptoBulkEntries entries + 1
  | .held _ => 1
def uptoBulkAll {H : Type} : List (DataW H) → Nat
  | [] => 0
  | d :: r => uptoBulk d + uptoBulkAll r
def uptoBulkEntries {H : Type} : List (Lit × DataW H) → Nat
  | [] => 0
  | x :: r => uptoBulkEntry x + uptoBulkEntries r
def uptoBulkEntry {H : Type} : Lit × DataW H → Nat
  | (.string bytes, d) => bytes.length + uptoBulk d + 1
  | (_, d) => uptoBulk d + 1
 end
def uptoSmall : (H : Type) → List (DataW H) → Bool := fun _ ds => decide (uptoBulkAll ds ≤ 1048576)
def OpenSpec.upto (s : _root_.Go.ChangeSpec) : _root_.Go.OpenSpec := { _root_.Go.OpenSpec.ofChange s with cond := some uptoSmall }

/-- 'limnerlaw04.PlacesTell', WHERE WHAT IT READS IS OF BULK AT MOST 1048576: true; the input reads as it did. -/
def placesTellUptoRow : OpenClaim := { program := "ytkmcfcpockpadaa", sum := "69c915cafb1a90fef363fa7b2194c85a27ebb2d44fd85d37f16f40e9ddb6a032", func := "limner/limnerlaw04.PlacesTell", spec := "placesTell", inPlace := ["internal/bytealg.CountString", "internal/bytealg.IndexByteString", "internal/bytealg.IndexString"], unfollowed := true, recurses := true, named := ["internal/bytealg.MaxLen"], apart := false, narrowed := true }
def PlacesTellUptoSaid : Prop := placesTellUptoRow.holds Try.pinned (OpenSpec.upto placesTellSpec)

/-- 'limnerlaw04.PlacesBack', WHERE WHAT IT READS IS OF BULK AT MOST 1048576: true; the input reads as it did. -/
def placesBackUptoRow : OpenClaim := { program := "ytkmcfcpockpadaa", sum := "69c915cafb1a90fef363fa7b2194c85a27ebb2d44fd85d37f16f40e9ddb6a032", func := "limner/limnerlaw04.PlacesBack", spec := "placesBack", inPlace := ["internal/bytealg.CountString", "internal/bytealg.IndexByteString", "internal/bytealg.IndexString"], unfollowed := true, recurses := true, named := ["internal/bytealg.MaxLen"], apart := false, narrowed := true }
def PlacesBackUptoSaid : Prop := placesBackUptoRow.holds Try.pinned (OpenSpec.upto placesBackSpec)

/-- 'limnerlaw04.PlacesRunes', WHERE WHAT IT READS IS OF BULK AT MOST 1048576: true; the input reads as it did. -/
def placesRunesUptoRow : OpenClaim := { program := "ytkmcfcpockpadaa", sum := "69c915cafb1a90fef363fa7b2194c85a27ebb2d44fd85d37f16f40e9ddb6a032", func := "limner/limnerlaw04.PlacesRunes", spec := "placesRunes", inPlace := ["internal/bytealg.CountString", "internal/bytealg.IndexByteString", "internal/bytealg.IndexString"], unfollowed := true, recurses := true, named := ["internal/bytealg.MaxLen"], apart := false, narrowed := true }
def PlacesRunesUptoSaid : Prop := placesRunesUptoRow.holds Try.pinned (OpenSpec.upto placesRunesSpec)

/-- 'limnerlaw04.PlacesLines', WHERE WHAT IT READS IS OF BULK AT MOST 1048576: true; the input reads as it did. -/
def placesLinesUptoRow : OpenClaim := { program := "ytkmcfcpockpadaa", sum := "69c915cafb1a90fef363fa7b2194c85a27ebb2d44fd85d37f16f40e9ddb6a032", func := "limner/limnerlaw04.PlacesLines", spec := "placesLines", inPlace := ["internal/bytealg.CountString", "internal/bytealg.IndexByteString", "internal/bytealg.IndexString"], unfollowed := true, recurses := true, named := ["internal/bytealg.MaxLen"], apart := false, narrowed := true }
def PlacesLinesUptoSaid : Prop := placesLinesUptoRow.holds Try.pinned (OpenSpec.upto placesLinesSpec)

end Rows
end Go.Proofs.Ytkmcfcpockpadaa
