/- A fact that the walk's simp does not look into. -/
import Derived.WalkKit
namespace Go.Proofs.YtfamoikmfbpigaaDoor
open Go.RowKit

theorem hide {p : Prop} (h : p) : Hid p := h
end Go.Proofs.YtfamoikmfbpigaaDoor
