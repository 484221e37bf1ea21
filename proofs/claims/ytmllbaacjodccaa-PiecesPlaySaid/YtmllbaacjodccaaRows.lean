/-
  No cell of these rows narrows 'for every input' (looked for: loops, veiled, ifaces, maps, wideKeys, modest, calm, conditions, laid).
  DERIVED. THE GIVEN ROWS OF THIS SEAT. 5 by the template 'for every input the law returns true; each argument reads behind the call as it read before'; 0 by the template 'total and deterministic' (their statements: YtmllbaacjodccaaTotals.lean).
  GIVEN WITH THE SEED: the statements are not yours to turn. If you find one false, say at which input.
  Laid BY PROGRAM, IN A SANDBOX (cutbox-rows.mjs): the forced cells as the released guide's own fill.sh prints them over the translation fcc489796083f8b6… (all of the seat's roots in one cut). By AI agents, Wed Nov 11 2026. No macro, syntax, notation, axiom, sorry.
-/
import Derived.Test.YtmllbaacjodccaaChecked
import GoSem.Claim
import GoSem.ClaimJoined
import GoSem.ClaimMapViews
import Derived.JoinedTies
import Derived.KernelRfl
namespace Go.Proofs.Ytmllbaacjodccaa
/- THE CELL 'sum', in the pinned program and in every row, IS THE sha256 OF THE DUMP (.gsa) THAT YtmllbaacjodccaaProg.lean LOADS. Nothing in Lean hashes anything: it is a label: what it is worth is what the hold of that sum in a sandbox is worth. -/
noncomputable def Try.pinned : Pinned := { name := "ytmllbaacjodccaa", sum := "fcc489796083f8b69c6608418c25cee3751c589b510c5749bab5e232d77405be", checked := Try.checked }
namespace Rows
def none {H : Type} : Left H := { results := [], args := [] }

/-- 'limnerlaw03.PiecesBack': WHATEVER THE INPUT: true; the input reads as it did. -/
def piecesBackSpec : ChangeSpec := { name := "piecesBack", fn := fun _ => fun
  | [d1, d2, d3] => { results := [.lit (.bool true)], args := [d1, d2, d3] }
  | _ => none }
def piecesBackRow : OpenClaim := { program := "ytmllbaacjodccaa", sum := "fcc489796083f8b69c6608418c25cee3751c589b510c5749bab5e232d77405be", func := "limner/limnerlaw03.PiecesBack", spec := "piecesBack", inPlace := ["internal/abi.NoEscape", "internal/bytealg.MakeNoZero"], apart := false }
def PiecesBackSaid : Prop := piecesBackRow.holds Try.pinned (OpenSpec.ofChange piecesBackSpec)

/-- ITS FALSE NEIGHBOUR: 'it returns false'. Refute it at one input. -/
def piecesBackWrong : ChangeSpec := { name := "piecesBack", fn := fun _ => fun
  | [d1, d2, d3] => { results := [.lit (.bool false)], args := [d1, d2, d3] }
  | _ => none }
def PiecesBackWrongFalsely : Prop := piecesBackRow.holds Try.pinned (OpenSpec.ofChange piecesBackWrong)

/-- 'limnerlaw03.PiecesSlices': WHATEVER THE INPUT: true; the input reads as it did. -/
def piecesSlicesSpec : ChangeSpec := { name := "piecesSlices", fn := fun _ => fun
  | [d1, d2] => { results := [.lit (.bool true)], args := [d1, d2] }
  | _ => none }
def piecesSlicesRow : OpenClaim := { program := "ytmllbaacjodccaa", sum := "fcc489796083f8b69c6608418c25cee3751c589b510c5749bab5e232d77405be", func := "limner/limnerlaw03.PiecesSlices", spec := "piecesSlices", inPlace := ["internal/abi.NoEscape", "internal/bytealg.MakeNoZero"], apart := false }
def PiecesSlicesSaid : Prop := piecesSlicesRow.holds Try.pinned (OpenSpec.ofChange piecesSlicesSpec)

/-- ITS FALSE NEIGHBOUR: 'it returns false'. Refute it at one input. -/
def piecesSlicesWrong : ChangeSpec := { name := "piecesSlices", fn := fun _ => fun
  | [d1, d2] => { results := [.lit (.bool false)], args := [d1, d2] }
  | _ => none }
def PiecesSlicesWrongFalsely : Prop := piecesSlicesRow.holds Try.pinned (OpenSpec.ofChange piecesSlicesWrong)

/-- 'limnerlaw03.PiecesFull': WHATEVER THE INPUT: true; the input reads as it did. -/
def piecesFullSpec : ChangeSpec := { name := "piecesFull", fn := fun _ => fun
  | [d1, d2] => { results := [.lit (.bool true)], args := [d1, d2] }
  | _ => none }
def piecesFullRow : OpenClaim := { program := "ytmllbaacjodccaa", sum := "fcc489796083f8b69c6608418c25cee3751c589b510c5749bab5e232d77405be", func := "limner/limnerlaw03.PiecesFull", spec := "piecesFull", inPlace := ["internal/abi.NoEscape", "internal/bytealg.MakeNoZero"], apart := false }
def PiecesFullSaid : Prop := piecesFullRow.holds Try.pinned (OpenSpec.ofChange piecesFullSpec)

/-- ITS FALSE NEIGHBOUR: 'it returns false'. Refute it at one input. -/
def piecesFullWrong : ChangeSpec := { name := "piecesFull", fn := fun _ => fun
  | [d1, d2] => { results := [.lit (.bool false)], args := [d1, d2] }
  | _ => none }
def PiecesFullWrongFalsely : Prop := piecesFullRow.holds Try.pinned (OpenSpec.ofChange piecesFullWrong)

/-- 'limnerlaw03.PiecesPlay': WHATEVER THE INPUT: true; the input reads as it did. -/
def piecesPlaySpec : ChangeSpec := { name := "piecesPlay", fn := fun _ => fun
  | [d1, d2] => { results := [.lit (.bool true)], args := [d1, d2] }
  | _ => none }
def piecesPlayRow : OpenClaim := { program := "ytmllbaacjodccaa", sum := "fcc489796083f8b69c6608418c25cee3751c589b510c5749bab5e232d77405be", func := "limner/limnerlaw03.PiecesPlay", spec := "piecesPlay", inPlace := ["internal/abi.NoEscape", "internal/bytealg.MakeNoZero", "internal/bytealg.CountString", "internal/bytealg.IndexByteString", "internal/bytealg.IndexString"], named := ["internal/bytealg.MaxLen"], apart := false }
def PiecesPlaySaid : Prop := piecesPlayRow.holds Try.pinned (OpenSpec.ofChange piecesPlaySpec)

/-- ITS FALSE NEIGHBOUR: 'it returns false'. Refute it at one input. -/
def piecesPlayWrong : ChangeSpec := { name := "piecesPlay", fn := fun _ => fun
  | [d1, d2] => { results := [.lit (.bool false)], args := [d1, d2] }
  | _ => none }
def PiecesPlayWrongFalsely : Prop := piecesPlayRow.holds Try.pinned (OpenSpec.ofChange piecesPlayWrong)

/-- 'limnerlaw03.PiecesNone': WHATEVER THE INPUT: true; the input reads as it did. -/
def piecesNoneSpec : ChangeSpec := { name := "piecesNone", fn := fun _ => fun
  | [d] => { results := [.lit (.bool true)], args := [d] }
  | _ => none }
def piecesNoneRow : OpenClaim := { program := "ytmllbaacjodccaa", sum := "fcc489796083f8b69c6608418c25cee3751c589b510c5749bab5e232d77405be", func := "limner/limnerlaw03.PiecesNone", spec := "piecesNone", inPlace := ["internal/abi.NoEscape", "internal/bytealg.MakeNoZero", "internal/bytealg.CountString", "internal/bytealg.IndexByteString", "internal/bytealg.IndexString"], named := ["internal/bytealg.MaxLen"], apart := false }
def PiecesNoneSaid : Prop := piecesNoneRow.holds Try.pinned (OpenSpec.ofChange piecesNoneSpec)

/-- ITS FALSE NEIGHBOUR: 'it returns false'. Refute it at one input. -/
def piecesNoneWrong : ChangeSpec := { name := "piecesNone", fn := fun _ => fun
  | [d] => { results := [.lit (.bool false)], args := [d] }
  | _ => none }
def PiecesNoneWrongFalsely : Prop := piecesNoneRow.holds Try.pinned (OpenSpec.ofChange piecesNoneWrong)

/- THE SECOND FORM. 'bulk': how many values and letters a reading holds, each counted each time it is reached (what is shared counts as often as it is met; a slice's spare places count too). A statement '..UptoSaid' is the law's where the arguments, and the package variables that the reading takes, are together of bulk at most 1048576: NARROWER than '..Said'. Prove '..Said' where nothing that the law and all that it calls make is longer than what came in: it says more and counts as full. Else prove '..UptoSaid'. A law counts once. -/
mutual
def uptoBulk {H : Type} : DataW H → Nat
  | .lit (.string bytes) => bytes.length + 1
  | .lit _ => 1
  | .nil => 1
  | .ptr d => uptoBulk d + 1
  | .slice elems spare => uptoBulkAll elems + uptoBulkAll spare + 1
  | .agg parts => uptoBulkAll parts + 1
  | .iface _ d => uptoBulk d + 1
  | .map entries => uptoBulkEntries entries + 1
  | .held _ => 1
def uptoBulkAll {H : Type} : List (DataW H) → Nat
  | [] => 0
  | d :: r => uptoBulk d + uptoBulkAll r
def uptoBulkEntries {H : Type} : List (Lit × DataW H) → Nat
  | [] => 0
  | x :: r => uptoBulkEntry x + uptoBulkEntries r
def uptoBulkEntry {H : Type} : Lit × DataW H → Nat
  | (.string bytes, d) => bytes.length + uptoBulk d + 1
  | (_, d) => uptoBulk d + 1
 end
def uptoSmall : (H : Type) → List (DataW H) → Bool := fun _ ds => decide (uptoBulkAll ds ≤ 1048576)
def OpenSpec.upto (s : _root_.Go.ChangeSpec) : _root_.Go.OpenSpec := { _root_.Go.OpenSpec.ofChange s with cond := some uptoSmall }

/-- 'limnerlaw03.PiecesBack', WHERE WHAT IT READS IS OF BULK AT MOST 1048576: true; the input reads as it did. -/
def piecesBackUptoRow : OpenClaim := { program := "ytmllbaacjodccaa", sum := "fcc489796083f8b69c6608418c25cee3751c589b510c5749bab5e232d77405be", func := "limner/limnerlaw03.PiecesBack", spec := "piecesBack", inPlace := ["internal/abi.NoEscape", "internal/bytealg.MakeNoZero"], apart := false, narrowed := true }
def PiecesBackUptoSaid : Prop := piecesBackUptoRow.holds Try.pinned (OpenSpec.upto piecesBackSpec)

/-- 'limnerlaw03.PiecesSlices', WHERE WHAT IT READS IS OF BULK AT MOST 1048576: true; the input reads as it did. -/
def piecesSlicesUptoRow : OpenClaim := { program := "ytmllbaacjodccaa", sum := "fcc489796083f8b69c6608418c25cee3751c589b510c5749bab5e232d77405be", func := "limner/limnerlaw03.PiecesSlices", spec := "piecesSlices", inPlace := ["internal/abi.NoEscape", "internal/bytealg.MakeNoZero"], apart := false, narrowed := true }
def PiecesSlicesUptoSaid : Prop := piecesSlicesUptoRow.holds Try.pinned (OpenSpec.upto piecesSlicesSpec)

/-- 'limnerlaw03.PiecesFull', WHERE WHAT IT READS IS OF BULK AT MOST 1048576: true; the input reads as it did. -/
def piecesFullUptoRow : OpenClaim := { program := "ytmllbaacjodccaa", sum := "fcc489796083f8b69c6608418c25cee3751c589b510c5749bab5e232d77405be", func := "limner/limnerlaw03.PiecesFull", spec := "piecesFull", inPlace := ["internal/abi.NoEscape", "internal/bytealg.MakeNoZero"], apart := false, narrowed := true }
def PiecesFullUptoSaid : Prop := piecesFullUptoRow.holds Try.pinned (OpenSpec.upto piecesFullSpec)

/-- 'limnerlaw03.PiecesPlay', WHERE WHAT IT READS IS OF BULK AT MOST 1048576: true; the input reads as it did. -/
def piecesPlayUptoRow : OpenClaim := { program := "ytmllbaacjodccaa", sum := "fcc489796083f8b69c6608418c25cee3751c589b510c5749bab5e232d77405be", func := "limner/limnerlaw03.PiecesPlay", spec := "piecesPlay", inPlace := ["internal/abi.NoEscape", "internal/bytealg.MakeNoZero", "internal/bytealg.CountString", "internal/bytealg.IndexByteString", "internal/bytealg.IndexString"], named := ["internal/bytealg.MaxLen"], apart := false, narrowed := true }
def PiecesPlayUptoSaid : Prop := piecesPlayUptoRow.holds Try.pinned (OpenSpec.upto piecesPlaySpec)

/-- 'limnerlaw03.PiecesNone', WHERE WHAT IT READS IS OF BULK AT MOST 1048576: true; the input reads as it did. -/
def piecesNoneUptoRow : OpenClaim := { program := "ytmllbaacjodccaa", sum := "fcc489796083f8b69c6608418c25cee3751c589b510c5749bab5e232d77405be", func := "limner/limnerlaw03.PiecesNone", spec := "piecesNone", inPlace := ["internal/abi.NoEscape", "internal/bytealg.MakeNoZero", "internal/bytealg.CountString", "internal/bytealg.IndexByteString", "internal/bytealg.IndexString"], named := ["internal/bytealg.MaxLen"], apart := false, narrowed := true }
def PiecesNoneUptoSaid : Prop := piecesNoneUptoRow.holds Try.pinned (OpenSpec.upto piecesNoneSpec)

end Rows
end Go.Proofs.Ytmllbaacjodccaa
