/- parts that the proof of BathTours uses -/
import Derived.Test.YtgeahmmepfmcoaaDoorTable
namespace Go.Proofs.YtgeahmmepfmcoaaDoor
open Go Go.RowKit L
set_option linter.unusedVariables false
set_option linter.unusedSimpArgs false

theorem bool_eq {a b : Bool} (h : a = b) : some (Value.bool a) = some (Value.bool b) := by rw [h]
def out (v : Int) : Bool := decide (v < -1099511627776) || decide (v > 1099511627776)
end Go.Proofs.YtgeahmmepfmcoaaDoor
