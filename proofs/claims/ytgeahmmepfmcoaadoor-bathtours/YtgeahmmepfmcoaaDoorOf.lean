/- parts that the proof of BathTours uses -/
import Derived.Test.YtgeahmmepfmcoaaDoorOrder
namespace Go.Proofs.YtgeahmmepfmcoaaDoor
open Go Go.RowKit L
set_option linter.unusedVariables false
set_option linter.unusedSimpArgs false

structure PRds (D : List Ent) (A1 A2 A3 : Option Addr) (vs : List Value) (st : List Int) (ch : Rows2) (be : List (Int × Int)) : Prop where
  of : ∀ w, (∀ x ∈ D, x.ok w) → PR w A1 A2 A3 vs st ch be
theorem PRds.at {D G : List Ent} {A1 A2 A3 : Option Addr} {vs : List Value} {st : List Int} {ch : Rows2} {be : List (Int × Int)} {w0 w : World} (h : PRds D A1 A2 A3 vs st ch be) (hw : St w0 G w) (hs : ∀ x ∈ D, x ∈ G) : PR w A1 A2 A3 vs st ch be := h.of w fun x hx => hw.has x (hs x hx)
theorem take_I (l : List Int) (k : Nat) : (I l).take k = I (l.take k) := by simp [I, List.map_take]
theorem clone_spec (w : World) (A : Option Addr) (c : Nat) (xs : List Int) (hl : xs.length ≤ 16777216) (hr : Rd w A (I xs)) : Calls Tryd.prog 79 #[.slice A xs.length c] w fun e w' => ∃ v D, e = .returned v ∧ St w D w' ∧ ∃ A' c' X, v = .slice A' xs.length c' ∧ D = [X] ∧ Rds [X] A' (I xs) := by
  refine calls (args := [.slice A xs.length c]) Tryd.func79 rfl Tryd.ntmps79 (Nat.le_of_ble_eq_true rfl) (St.refl w) ?_
  refine J_seq ?_
  refine J_region ?_
  refine V_asg (.n _) rfl rfl ?_   -- 0.0
  refine V_sub [(0, _), (2, _)] ⟨rfl, rfl, trivial⟩ ?_
  refine V_nil (.inl rfl) ?_
  refine E_then ?_
  refine J_seq ?_
  refine J_seq ?_
  refine J_region ?_
  refine V_mov (.n _) rfl rfl ?_   -- 1.0
  refine V_isnil (.n _) Tryd.underlying34 rfl rfl rfl ?_   -- 1.1
  refine V_sub [(0, _), (2, _), (4, _)] ⟨rfl, rfl, rfl, trivial⟩ ?_
  refine V_nil (.inl rfl) ?_
  refine E_then ?_
  refine J_cond rfl (fun h1 => ?_) (fun h1 => ?_)   -- C0
  · skip
    refine J_seq ?_
    refine J_region ?_
    refine V_asg (.n _) rfl rfl ?_   -- 2.0
    refine V_sub [(0, _), (2, _), (4, _)] ⟨rfl, rfl, rfl, trivial⟩ ?_
    refine V_nil (.inl rfl) ?_
    refine E_then ?_
    refine J_ret ?_
    refine E_then_ret ?_
    -- return R0
    refine E_ret1 Tryd.results79 rfl (fun w hw => ?_)
    have hA : A = none := by assumption
    subst hA
    have hx := rd_none hr
    have hx0 : xs = [] := by simpa [I] using hx
    subst hx0
    exact ⟨_, [.e], rfl, ⟨hw.base, List.nodup_nil, by simp [keys, Ent.key], by simp [Ent.ok]⟩, none, 0, .e, rfl, rfl, Rds.nil⟩
  · skip
    refine J_skip ?_
    refine E_then ?_
    refine J_seq ?_
    refine J_region ?_
    refine V_lit (.n _) Tryd.underlying34 Tryd.sizeOf3 Tryd.zeroValue3 .nil rfl rfl rfl (fun _ => trivial) (fun b5 => ?_)   -- 3.0
    refine V_mov (.n _) rfl rfl ?_   -- 3.1
    refine V_app (z := 1) (len := 0) (cs := []) (ms := I xs) (X := .c b5 3 []) (G1 := []) (G2 := []) (.n _) Tryd.underlying34 Tryd.underlying34 Tryd.typeInfo3 rfl rfl rfl rfl rfl rfl rfl rfl (Own.row rfl) (fun w1 hw1 => hr.keep hw1) (by simp) (I_one _) (by omega) rfl ?_
    intro v2 X2 hown
    refine V_asg (.n _) rfl rfl ?_   -- 3.3
    refine V_sub [(0, _), (2, _), (4, _)] ⟨rfl, rfl, rfl, trivial⟩ ?_
    refine V_nil (.inl rfl) ?_
    refine E_then ?_
    refine J_ret ?_
    -- return R1
    refine E_ret1 Tryd.results79 rfl (fun w hw => ?_)
    obtain ⟨A', c', rfl, _⟩ := hown.is
    rw [List.nil_append, Nat.zero_add] at hown
    exact ⟨_, [X2], rfl, hw, A', c', X2, by rw [Nat.zero_add], rfl, own_rds hown⟩

end Go.Proofs.YtgeahmmepfmcoaaDoor
