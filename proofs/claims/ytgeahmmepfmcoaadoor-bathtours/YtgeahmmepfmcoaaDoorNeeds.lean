/- parts that the proof of BathTours uses -/
import Derived.Test.YtgeahmmepfmcoaaDoorValid
namespace Go.Proofs.YtgeahmmepfmcoaaDoor
open Go Go.RowKit L
set_option linter.unusedVariables false
set_option linter.unusedSimpArgs false

def needT (n : Nat) (B : Pairs) : List Int := mkT n fun j => ((needN B j : Nat) : Int)
@[simp] theorem needT_length (n : Nat) (B : Pairs) : (needT n B).length = n := mkT_length _ _
theorem lt63 {s n : Nat} (h : s < 2 ^ n) (hn : n ≤ 10) : s < 2 ^ 63 := Nat.lt_of_lt_of_le h (Nat.pow_le_pow_right (by decide) (by omega))
theorem bit0 (b : Bool) : decide ((if b = true then (1 : Int) else 0) = 0) = !b := by cases b <;> rfl
end Go.Proofs.YtgeahmmepfmcoaaDoor
