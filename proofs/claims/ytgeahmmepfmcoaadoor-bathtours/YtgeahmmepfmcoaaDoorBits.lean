/- parts that the proof of BathTours uses -/
import Derived.Test.YtgeahmmepfmcoaaDoorCore9
namespace Go.Proofs.YtgeahmmepfmcoaaDoor.L
open Go Go.RowKit
set_option linter.unusedVariables false
set_option linter.unusedSimpArgs false

theorem ofInt_toNat {a : Nat} (ha : a < 2 ^ 64) : (BitVec.ofInt 64 (a : Int)).toNat = a := by
  rw [BitVec.ofInt_natCast, BitVec.toNat_ofNat, Nat.mod_eq_of_lt ha]
theorem wrap_nat {x : Nat} (h : x < 2 ^ 63) : IntKind.i64.wrap (x : Int) = x := wrap_ok (by omega)
theorem bits_and {a b : Nat} (ha : a < 2 ^ 63) (hb : b < 2 ^ 63) : bits2 .and .i64 (a : Int) (b : Int) = ((a &&& b : Nat) : Int) := by
  have h : (a &&& b) < 2 ^ 63 := Nat.lt_of_le_of_lt Nat.and_le_left ha
  show IntKind.i64.wrap ((BitVec.ofInt 64 (a : Int) &&& BitVec.ofInt 64 (b : Int)).toNat : Nat) = _
  rw [BitVec.toNat_and, ofInt_toNat (by omega), ofInt_toNat (by omega), wrap_nat h]
theorem bits_or {a b : Nat} (ha : a < 2 ^ 63) (hb : b < 2 ^ 63) : bits2 .or .i64 (a : Int) (b : Int) = ((a ||| b : Nat) : Int) := by
  have h : (a ||| b) < 2 ^ 63 := Nat.or_lt_two_pow ha hb
  show IntKind.i64.wrap ((BitVec.ofInt 64 (a : Int) ||| BitVec.ofInt 64 (b : Int)).toNat : Nat) = _
  rw [BitVec.toNat_or, ofInt_toNat (by omega), ofInt_toNat (by omega), wrap_nat h]
def less (a b : Nat) : Nat := (BitVec.ofNat 64 a &&& ~~~BitVec.ofNat 64 b).toNat
theorem shr_nat (s j : Nat) : ((s : Int) / 2 ^ ((j : Int)).toNat) = ((s / 2 ^ j : Nat) : Int) := by
  rw [Int.toNat_natCast]
  simp
theorem bit_of (s j : Nat) (h : s < 2 ^ 63) : bits2 .and .i64 ((s / 2 ^ j : Nat) : Int) 1 = (if s.testBit j then 1 else 0) := by
  have h1 : s / 2 ^ j < 2 ^ 63 := Nat.lt_of_le_of_lt (Nat.div_le_self _ _) h
  have := bits_and h1 (show 1 < 2 ^ 63 by decide)
  rw [show ((1 : Nat) : Int) = 1 from rfl] at this
  rw [this, Nat.and_one_is_mod, Nat.testBit_eq_decide_div_mod_eq]
  by_cases h2 : s / 2 ^ j % 2 = 1
  · simp [h2]
  · have : s / 2 ^ j % 2 = 0 := by omega
    simp [this]
theorem shl_nat (j : Nat) : (1 : Int) * 2 ^ ((j : Int)).toNat = ((2 ^ j : Nat) : Int) := by
  rw [Int.toNat_natCast]
  simp
theorem or_bit (s j k : Nat) : (s ||| 2 ^ j).testBit k = (s.testBit k || decide (j = k)) := by
  rw [Nat.testBit_or, Nat.testBit_two_pow]
theorem or_lt {s j n : Nat} (hs : s < 2 ^ n) (hj : j < n) : s ||| 2 ^ j < 2 ^ n := Nat.or_lt_two_pow hs (Nat.pow_lt_pow_right (by decide) hj)
theorem or_gt {s j : Nat} (h : s.testBit j = false) : s < s ||| 2 ^ j := by
  rcases Nat.lt_or_ge s (s ||| 2 ^ j) with h1 | h1
  · exact h1
  · exfalso
    have h2 : s ||| 2 ^ j = s := Nat.le_antisymm h1 Nat.left_le_or
    have := or_bit s j j
    rw [h2, h] at this
    simp at this
theorem full_bit (n k : Nat) : (2 ^ n - 1).testBit k = decide (k < n) := Nat.testBit_two_pow_sub_one n k

def mkT (N : Nat) (f : Nat → Int) : List Int := (List.range N).map f
@[simp] theorem mkT_length (N : Nat) (f : Nat → Int) : (mkT N f).length = N := by simp [mkT]
theorem mkT_get {N k : Nat} {f : Nat → Int} (h : k < N) : (mkT N f).getD k 0 = f k := by simp [mkT, h]
theorem mkT_set (N k : Nat) (f : Nat → Int) (v : Int) : (mkT N f).set k v = mkT N (fun x => if x = k then v else f x) := by
  refine List.ext_getElem (by simp [mkT]) fun i h1 h2 => ?_
  simp only [mkT, List.getElem_set, List.getElem_map, List.getElem_range]
  by_cases e : k = i
  · simp [e]
  · rw [if_neg e, if_neg (fun h => e h.symm)]
theorem mkT_congr {N : Nat} {f g : Nat → Int} (h : ∀ k, k < N → f k = g k) : mkT N f = mkT N g :=
  List.map_congr_left fun k hk => h k (List.mem_range.1 hk)
end Go.Proofs.YtgeahmmepfmcoaaDoor.L
