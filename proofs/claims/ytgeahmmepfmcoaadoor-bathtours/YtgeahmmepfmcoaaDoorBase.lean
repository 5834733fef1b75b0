/- parts that the proof of BathTours uses -/
import Derived.Test.YtgeahmmepfmcoaaDoorCore6
namespace Go.Proofs.YtgeahmmepfmcoaaDoor.L
open Go Go.RowKit
set_option linter.unusedVariables false
set_option linter.unusedSimpArgs false

def I (xs : List Int) : List Value := xs.map (Value.int .i64)
def gI (xs : List Int) (i : Int) : Int := xs.getD i.toNat 0
@[simp] theorem I_length (xs : List Int) : (I xs).length = xs.length := by simp [I]
theorem I_get {xs : List Int} {sp : List Value} {i : Int} (h0 : 0 ≤ i) (h1 : i < xs.length) : (I xs ++ sp)[i.toNat * 1]? = some (.int .i64 (gI xs i)) := by
  have h : i.toNat < xs.length := by omega
  simp [I, gI, h, List.getElem?_append]
theorem I_get0 {xs : List Int} {i : Int} (h0 : 0 ≤ i) (h1 : i < xs.length) : (I xs)[i.toNat * 1]? = some (.int .i64 (gI xs i)) := by
  have h : i.toNat < xs.length := by omega
  simp [I, gI, h]

theorem wrap_ok {x : Int} (h : -9223372036854775808 ≤ x ∧ x ≤ 9223372036854775807) : IntKind.i64.wrap x = x := by
  simp [IntKind.wrap, IntKind.bits, IntKind.signed]; omega

end Go.Proofs.YtgeahmmepfmcoaaDoor.L
