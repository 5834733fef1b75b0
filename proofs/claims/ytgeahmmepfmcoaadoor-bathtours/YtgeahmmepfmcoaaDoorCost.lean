/- parts that the proof of BathTours uses -/
import Derived.Test.YtgeahmmepfmcoaaDoorPrices
namespace Go.Proofs.YtgeahmmepfmcoaaDoor
open Go Go.RowKit L
set_option linter.unusedVariables false
set_option linter.unusedSimpArgs false

def ns (os : List Int) : List Nat := os.map Int.toNat
@[simp] theorem ns_length (os : List Int) : (ns os).length = os.length := by simp [ns]
def inR (n : Nat) (os : List Int) : Bool := os.all fun j => decide (0 ≤ j) && decide (j < n)
theorem okO_app {n : Nat} {B : Pairs} {j : Nat} : ∀ (l : List Nat) (s : Nat), okO n B s (l ++ [j]) = (okO n B s l && (decide (j < n) && fol B (endO s l) j))
  | [], s => by simp [okO, endO]
  | x :: l, s => by
    show (decide (x < n) && fol B s x && okO n B (s ||| 2 ^ x) (l ++ [j])) = (decide (x < n) && fol B s x && okO n B (s ||| 2 ^ x) l && (decide (j < n) && fol B (endO (s ||| 2 ^ x) l) j))
    rw [okO_app l, Bool.and_assoc, Bool.and_assoc, Bool.and_assoc]
theorem endO_app {j : Nat} : ∀ (l : List Nat) (s : Nat), endO s (l ++ [j]) = endO s l ||| 2 ^ j
  | [], s => rfl
  | x :: l, s => endO_app l _
def lastO : Option Nat → List Nat → Option Nat
  | o, [] => o
  | _, j :: l => lastO (some j) l
theorem okO_lt {n : Nat} {B : Pairs} : ∀ (l : List Nat) (s : Nat), okO n B s l = true → ∀ j ∈ l, j < n
  | [], s, _, j, hj => by simp at hj
  | x :: l, s, h, j, hj => by
    simp only [okO, Bool.and_eq_true, decide_eq_true_eq] at h
    rcases List.mem_cons.1 hj with rfl | hj
    · exact h.1.1
    · exact okO_lt l _ h.2 j hj
end Go.Proofs.YtgeahmmepfmcoaaDoor
