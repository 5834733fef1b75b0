/- parts that the proof of BathTours uses -/
import Derived.Test.YtgeahmmepfmcoaaDoorCost
namespace Go.Proofs.YtgeahmmepfmcoaaDoor
open Go Go.RowKit L
set_option linter.unusedVariables false
set_option linter.unusedSimpArgs false

theorem costsB_of {l : List Int} {n : Nat} (h : l.length = n) (h2 : l.all okC = true) : costsB l n = true := by rw [costsB, decide_eq_true h, h2]; rfl
theorem costsB_len {l : List Int} {n : Nat} (h : l.length ≠ n) : costsB l n = false := by rw [costsB, decide_eq_false h]; rfl
theorem costsB_all {l : List Int} {n : Nat} (h : l.all okC = false) : costsB l n = false := by rw [costsB, h, Bool.and_false]
def Rds (D : List Ent) (A : Option Addr) (cs : List Value) : Prop := ∀ w, (∀ x ∈ D, x.ok w) → Rd w A cs
theorem Rds.mono {D G : List Ent} {A : Option Addr} {cs : List Value} (h : Rds D A cs) (hs : ∀ x ∈ D, x ∈ G) : Rds G A cs := fun w hw => h w fun x hx => hw x (hs x hx)
theorem Rds.of {D G : List Ent} {A : Option Addr} {cs : List Value} {w0 w : World} (h : Rds D A cs) (hw : St w0 G w) (hs : ∀ x ∈ D, x ∈ G) : Rd w A cs := h w fun x hx => hw.has x (hs x hx)
theorem Rds.nil {D : List Ent} {A : Option Addr} : Rds D A [] := fun w hw j v hv => by simp at hv
theorem own_rds {t z : TypeId} {A : Option Addr} {l c : Nat} {cs : List Value} {x : Ent} (h : Own t z (.slice A l c) l cs x) : Rds [x] A cs := fun w hw => h.rd (hw x (by simp))
theorem Rds.row {b t : Nat} {cs : List Value} : Rds [.c b t cs] (some ⟨b, 0, none⟩) cs := fun w hw j v hv => ⟨⟨b, 0, rfl⟩, by rw [adr_own]; exact cell_of (show w.heap[b]? = _ from hw (.c b t cs) (by simp)) hv⟩

theorem isNaN_spec (w : World) (x : Int) : Calls Tryd.prog 111 #[.int .i64 x] w fun e w' => e = .returned (.bool false) ∧ St w [] w' := by
  refine calls (args := [.int .i64 x]) Tryd.func111 rfl Tryd.ntmps111 (Nat.le_of_ble_eq_true rfl) (St.refl w) ?_
  refine J_seq ?_
  refine J_region ?_
  refine V_asg (.n _) rfl rfl ?_   -- 0.0
  refine V_sub [(0, _), (2, _)] ⟨rfl, rfl, trivial⟩ ?_
  refine V_nil (.inl rfl) ?_
  refine E_then ?_
  refine J_seq ?_
  refine J_region ?_
  refine V_mov (.n _) rfl rfl ?_   -- 1.0
  refine V_mov (.n _) rfl rfl ?_   -- 1.1
  refine V_neq (.n _) rfl rfl rfl ?_   -- 1.2
  refine V_asg (.n _) rfl rfl ?_   -- 1.3
  refine V_sub [(0, _), (2, _)] ⟨rfl, rfl, trivial⟩ ?_
  refine V_nil (.inl rfl) ?_
  refine E_then ?_
  refine J_ret ?_
  -- return R0
  refine E_ret1 Tryd.results111 rfl (fun w hw => ?_)
  exact ⟨by simp, hw⟩

end Go.Proofs.YtgeahmmepfmcoaaDoor
