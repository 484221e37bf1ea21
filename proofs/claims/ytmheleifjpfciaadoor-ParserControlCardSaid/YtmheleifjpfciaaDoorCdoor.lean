/- From the rows' listed variables to the tables that the contracts ask of the world. -/
import Derived.Test.YtmheleifjpfciaaDoorFrame
import Derived.Test.YtmheleifjpfciaaDoorCodes
import Derived.Test.YtmheleifjpfciaaDoorCards
import Derived.Test.YtmheleifjpfciaaDoorTie
import Derived.Lib.LaidU8
import Derived.PinnedBridge
import Derived.LaidMore
import Derived.Lay
import Derived.SevenTiedAt
import Derived.Stop.Joined
namespace Go.Proofs.YtmheleifjpfciaaDoor
open Go.ChangeShapes Go.WideShapes Go.ChangeAt Go.RowKit Go.Lib

/-- The rows' list of variables. -/
def laidList : List (String × DataW Unit) := [("unicode/utf8.acceptRanges", Rows.laid_unicode_utf8_acceptRanges), ("unicode/utf8.first", Rows.laid_unicode_utf8_first)]

theorem u8Extra : Go.Proofs.U8Extra Tryd.prog Tryd.lays260_ren := ⟨by kernel_rfl, by kernel_rfl, by kernel_rfl, by kernel_rfl, by kernel_rfl, by kernel_rfl, by kernel_rfl⟩
theorem acceptEq : (Rows.laid_unicode_utf8_acceptRanges : DataW Unit) = acceptData := by kernel_rfl
/-- What the rows' list gives. -/
theorem utabs_of_laid {W : World} (h : laidMetH Tryd.prog laidList W) : UTabs W := by
  rw [MakeChecks.laidMetH_plain _ _ _ (by kernel_rfl)] at h
  have r3 := laidMet.reads h (n := "unicode/utf8.first") (d := Rows.laid_unicode_utf8_first) (by simp [laidList])
  have r4 := laidMet.reads h (n := "unicode/utf8.acceptRanges") (d := Rows.laid_unicode_utf8_acceptRanges) (by simp [laidList])
  rw [show (Rows.laid_unicode_utf8_first : DataW Unit) = firstData from Pinned.utf8First_eq] at r3
  rw [acceptEq] at r4
  exact Go.Proofs.utf8Tabs_of_reads Tryd.lays260 u8Extra r3 r4
end Go.Proofs.YtmheleifjpfciaaDoor
