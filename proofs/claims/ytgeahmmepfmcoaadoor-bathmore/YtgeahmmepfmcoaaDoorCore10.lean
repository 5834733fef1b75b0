/- Rows of rows of one's own. -/
import Derived.Test.YtgeahmmepfmcoaaDoorBits
namespace Go.Proofs.YtgeahmmepfmcoaaDoor.L
open Go Go.RowKit
set_option linter.unusedVariables false
set_option linter.unusedSimpArgs false

/-- rows of whole numbers, each in a block of its own: row q + i is the i-th -/
def rowsE (t : Nat) (Rw : Nat → List Int) : Nat → List Nat → List Ent
  | _, [] => []
  | q, b :: bs => .c b t (I (Rw q)) :: rowsE t Rw (q + 1) bs
def rowV (L : Nat) (b : Nat) : Value := .slice (some ⟨b, 0, none⟩) L L
theorem rowsE_mem {t : Nat} {Rw : Nat → List Int} : ∀ {bs : List Nat} {q i : Nat}, i < bs.length → Ent.c (bs.getD i 0) t (I (Rw (q + i))) ∈ rowsE t Rw q bs
  | b :: bs, q, 0, h => List.Mem.head _
  | b :: bs, q, i + 1, h => by
    have := rowsE_mem (t := t) (Rw := Rw) (bs := bs) (q := q + 1) (i := i) (by simpa using h)
    rw [show q + (i + 1) = q + 1 + i by omega]
    exact List.Mem.tail _ this
theorem rowsV_get {L : Nat} {bs : List Nat} {i : Nat} (h : i < bs.length) : (bs.map (rowV L))[((i : Nat) : Int).toNat * 1]? = some (.slice (some ⟨bs.getD i 0, 0, none⟩) L L) := by
  simp [h, rowV]
theorem grid_get0 {L i b : Nat} {z : Value} {bs : List Nat} : (List.replicate i z ++ (b :: bs).map (rowV L))[((i : Nat) : Int).toNat * 1]? = some (.slice (some ⟨b, 0, none⟩) L L) := by
  rw [Int.toNat_natCast, Nat.mul_one, List.getElem?_append_right (by simp)]
  simp [rowV]
theorem grid_get1 {L i b c : Nat} {z : Value} {bs : List Nat} : (List.replicate i z ++ (b :: c :: bs).map (rowV L))[((i + 1 : Nat) : Int).toNat * 1]? = some (.slice (some ⟨c, 0, none⟩) L L) := by
  rw [Int.toNat_natCast, Nat.mul_one, List.getElem?_append_right (by simp)]
  simp [rowV]
theorem grid_set {L i b : Nat} {z : Value} {bs : List Nat} : (List.replicate (i + 1) z ++ bs.map (rowV L)).set (((i : Nat) : Int).toNat * 1) (.slice (some ⟨b, 0, none⟩) L L) = List.replicate i z ++ (b :: bs).map (rowV L) := by
  rw [Int.toNat_natCast, Nat.mul_one, List.set_append_left _ _ (by simp)]
  have : (List.replicate (i + 1) z).set i (.slice (some ⟨b, 0, none⟩) L L) = List.replicate i z ++ [.slice (some ⟨b, 0, none⟩) L L] := by
    rw [List.replicate_succ', List.set_append_right _ _ (by simp)]
    simp
  rw [this]
  simp [rowV]

end Go.Proofs.YtgeahmmepfmcoaaDoor.L
