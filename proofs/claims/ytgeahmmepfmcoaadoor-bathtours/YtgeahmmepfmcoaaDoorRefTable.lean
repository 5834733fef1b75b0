/- parts that the proof of BathTours uses -/
import Derived.Test.YtgeahmmepfmcoaaDoorTree
namespace Go.Proofs.YtgeahmmepfmcoaaDoor
open Go Go.RowKit L
set_option linter.unusedVariables false
set_option linter.unusedSimpArgs false

def cstep (xs : List (List UInt8)) (tl tc : List Int) (p : Nat) (s : Int × Int) (c : UInt8) : Int × Int :=
  if 0 < adv c xs p 1 then (if tl.getD (p + adv c xs p 1) 0 + 1 > s.1 then s else if tl.getD (p + adv c xs p 1) 0 + 1 = s.1 then (s.1, IntKind.i64.wrap (s.2 + tc.getD (p + adv c xs p 1) 0)) else (tl.getD (p + adv c xs p 1) 0 + 1, tc.getD (p + adv c xs p 1) 0)) else s
def cBest (xs : List (List UInt8)) (tl tc : List Int) (p : Nat) (l : List UInt8) : Int × Int := l.foldl (cstep xs tl tc p) (far, tc.getD p 0)
def cnt (xs : List (List UInt8)) : Nat → List Int
  | 0 => (List.replicate (posN xs) 0).set (posN xs - 1) 1
  | k + 1 => (cnt xs k).set (posN xs - 2 - k) (cBest xs (tabD xs k) (cnt xs k) (posN xs - 2 - k) letters).2
end Go.Proofs.YtgeahmmepfmcoaaDoor
