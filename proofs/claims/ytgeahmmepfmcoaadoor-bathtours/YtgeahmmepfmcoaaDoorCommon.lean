/- parts that the proof of BathTours uses -/
import Derived.Test.YtgeahmmepfmcoaaDoorShort
namespace Go.Proofs.YtgeahmmepfmcoaaDoor
open Go Go.RowKit L
set_option linter.unusedVariables false
set_option linter.unusedSimpArgs false

structure SE (bm bf b : Nat) (R : List Ent) : Prop where
  m : Ent.c bm 82 [.map (some b)] ∈ R
  f : Ent.c bf 78 [.func (.func 57) #[] #[.pointer (some ⟨bm, 0, none⟩), .pointer (some ⟨bf, 0, none⟩)]] ∈ R
theorem SE.mono {bm bf b : Nat} {R R' : List Ent} (h : SE bm bf b R) (hs : ∀ x ∈ R, x ∈ R') : SE bm bf b R' := ⟨hs _ h.m, hs _ h.f⟩

end Go.Proofs.YtgeahmmepfmcoaaDoor
