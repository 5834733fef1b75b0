/- the plan's types -/
import Derived.Test.YtgeahmmepfmcoaaDoorRow2
import Derived.Test.YtgeahmmepfmcoaaDoorWitD
namespace Go.Proofs.YtgeahmmepfmcoaaDoor
open Go Go.RowKit L
def planT : PlanT Tryd.prog 48 := { s1 := 34, s2 := 45, s3 := 46, q := 3, e := 49, f1 := _, f2 := _, f3 := _, ht := Tryd.underlying48, ct := by kernel_rfl, o1 := rfl, o2 := rfl, o3 := rfl, t1 := rfl, t2 := rfl, t3 := rfl, c1 := by kernel_rfl, c2 := by kernel_rfl, c3 := by kernel_rfl, u1 := Tryd.underlying34, u2 := Tryd.underlying45, u3 := Tryd.underlying46, ue := Tryd.underlying49, uq := Tryd.underlying3, cq := by kernel_rfl, ce := by kernel_rfl, bq := by kernel_rfl, b1 := by kernel_rfl, be := by kernel_rfl }
end Go.Proofs.YtgeahmmepfmcoaaDoor
