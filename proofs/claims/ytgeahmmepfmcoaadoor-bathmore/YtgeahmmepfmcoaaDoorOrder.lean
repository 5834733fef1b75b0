/- parts of the proofs of the bath statements -/
import Derived.Test.YtgeahmmepfmcoaaDoorCost
namespace Go.Proofs.YtgeahmmepfmcoaaDoor
open Go Go.RowKit L
set_option linter.unusedVariables false
set_option linter.unusedSimpArgs false

theorem okB_no {n : Nat} {x : Int × Int} (h : x.1 < 0 ∨ (n : Int) ≤ x.1 ∨ x.2 < 0 ∨ (n : Int) ≤ x.2 ∨ x.1 = x.2) : okB n x = false := by
  cases ho : okB n x with
  | false => rfl
  | true =>
    unfold okB at ho
    simp only [Bool.and_eq_true, decide_eq_true_eq, Bool.not_eq_true', beq_eq_false_iff_ne] at ho
    obtain ⟨⟨⟨⟨h1, h2⟩, h3⟩, h4⟩, h5⟩ := ho
    rcases h with h | h | h | h | h
    · omega
    · omega
    · omega
    · omega
    · exact (h1 h).elim
theorem okB_yes {n : Nat} {x : Int × Int} (h1 : ¬ x.1 < 0) (h2 : ¬ (n : Int) ≤ x.1) (h3 : ¬ x.2 < 0) (h4 : ¬ (n : Int) ≤ x.2) (h5 : ¬ x.1 = x.2) : okB n x = true := by
  unfold okB
  rw [show (x.1 == x.2) = false from beq_eq_false_iff_ne.2 h5, decide_eq_true (show (0 : Int) ≤ x.1 by omega), decide_eq_true (show (0 : Int) ≤ x.2 by omega), decide_eq_true (show x.1 < n by omega), decide_eq_true (show x.2 < n by omega)]; rfl
theorem costsB_of {l : List Int} {n : Nat} (h : l.length = n) (h2 : l.all okC = true) : costsB l n = true := by rw [costsB, decide_eq_true h, h2]; rfl
theorem costsB_len {l : List Int} {n : Nat} (h : l.length ≠ n) : costsB l n = false := by rw [costsB, decide_eq_false h]; rfl
theorem costsB_all {l : List Int} {n : Nat} (h : l.all okC = false) : costsB l n = false := by rw [costsB, h, Bool.and_false]
/-- slices.Compare -/
def cmpI : List Int → List Int → Int
  | [], [] => 0
  | [], _ :: _ => -1
  | _ :: _, [] => 1
  | a :: l, b :: r => if a < b then -1 else if b < a then 1 else cmpI l r
theorem cmpI_drop {xs ys : List Int} {k : Nat} (h1 : k < xs.length) (h2 : k < ys.length) : cmpI (xs.drop k) (ys.drop k) = if xs.getD k 0 < ys.getD k 0 then -1 else if ys.getD k 0 < xs.getD k 0 then 1 else cmpI (xs.drop (k + 1)) (ys.drop (k + 1)) := by
  rw [List.drop_eq_getElem_cons h1, List.drop_eq_getElem_cons h2]
  simp [cmpI, h1, h2]
def cmp1 (a b : Int) : Int := if a < b then -1 else if b < a then 1 else 0
/-- what reads, whatever else there is -/
def Rds (D : List Ent) (A : Option Addr) (cs : List Value) : Prop := ∀ w, (∀ x ∈ D, x.ok w) → Rd w A cs
theorem Rds.mono {D G : List Ent} {A : Option Addr} {cs : List Value} (h : Rds D A cs) (hs : ∀ x ∈ D, x ∈ G) : Rds G A cs := fun w hw => h w fun x hx => hw x (hs x hx)
theorem Rds.of {D G : List Ent} {A : Option Addr} {cs : List Value} {w0 w : World} (h : Rds D A cs) (hw : St w0 G w) (hs : ∀ x ∈ D, x ∈ G) : Rd w A cs := h w fun x hx => hw.has x (hs x hx)
theorem Rds.nil {D : List Ent} {A : Option Addr} : Rds D A [] := fun w hw j v hv => by simp at hv
theorem own_rds {t z : TypeId} {A : Option Addr} {l c : Nat} {cs : List Value} {x : Ent} (h : Own t z (.slice A l c) l cs x) : Rds [x] A cs := fun w hw => h.rd (hw x (by simp))
theorem Rds.row {b t : Nat} {cs : List Value} : Rds [.c b t cs] (some ⟨b, 0, none⟩) cs := fun w hw j v hv => ⟨⟨b, 0, rfl⟩, by rw [adr_own]; exact cell_of (show w.heap[b]? = _ from hw (.c b t cs) (by simp)) hv⟩

theorem rvalid_spec (w : World) (A1 A2 A3 : Option Addr) (c1 c2 c3 : Nat) (vs : List Value) (st : List Int) (ch : Rows2) (be : List (Int × Int)) (hl1 : st.length ≤ 140737488351232) (hl2 : ch.length ≤ 140737488351232) (hl3 : be.length ≤ 140737488351232) (hp : PR w A1 A2 A3 vs st ch be) (hlr : ∀ r ∈ ch, r.length ≤ 140737488351232) : Calls Tryd.prog 34 #[.agg #[.slice A1 st.length c1, .slice A2 ch.length c2, .slice A3 be.length c3]] w fun e w' => e = .returned (.bool (validP st ch be)) ∧ St w [] w' := by
  refine calls (args := [.agg #[.slice A1 st.length c1, .slice A2 ch.length c2, .slice A3 be.length c3]]) Tryd.func34 rfl Tryd.ntmps34 (Nat.le_of_ble_eq_true rfl) (St.refl w) ?_
  refine J_seq ?_
  refine J_region ?_
  refine V_box (.n _) rfl rfl rfl (fun _ => trivial) (fun b1 => ?_)   -- 0.0
  refine V_asg (.n _) rfl rfl ?_   -- 0.1
  refine V_sub [(0, _), (1, _), (2, _)] ⟨rfl, rfl, rfl, trivial⟩ ?_
  refine V_nil (.inl rfl) ?_
  refine E_then ?_
  refine J_seq ?_
  refine J_region ?_
  first | refine V_fa0 (.n _) fo48_0 rfl rfl ?_ | refine V_faz (.n _) fo48_0 rfl rfl ?_ | refine V_fa (.n _) fo48_0 rfl rfl ?_   -- 1.0
  refine V_ld (.n _) Tryd.isAgg34 rfl (by repeat (first | exact List.Mem.head _ | assumption | apply List.Mem.tail)) (by rfl) rfl ?_   -- 1.1
  refine V_len (.n _) Tryd.underlying34 rfl rfl ?_   -- 1.2
  refine V_asg (.n _) rfl rfl ?_   -- 1.3
  refine V_sub [(0, _), (1, _), (2, _), (3, _)] ⟨rfl, rfl, rfl, rfl, trivial⟩ ?_
  refine V_nil (.inl rfl) ?_
  refine E_then ?_
  refine J_seq ?_
  refine J_seq ?_
  refine J_region ?_
  refine V_mov (.n _) rfl rfl ?_   -- 2.0
  refine V_lss (.n _) rfl rfl rfl ?_   -- 2.1
  refine V_mov (.n _) rfl rfl ?_   -- 2.2
  refine V_split 13 rfl (fun h1 => ?_) (fun h1 => ?_)   -- guard 2.2
  · skip
    refine V_pass (.n .p) (2, false) rfl rfl ?_   -- 2.3
    refine V_pass (.n .p) (2, false) rfl rfl ?_   -- 2.4
    refine V_pickT (.n _) rfl rfl rfl ?_   -- 2.5
    refine V_mov (.n _) rfl rfl ?_   -- 2.6
    refine V_pass (.n .p) (6, false) rfl rfl ?_   -- 2.7
    refine V_pass (.n .p) (6, false) rfl rfl ?_   -- 2.8
    refine V_pass (.n .p) (6, false) rfl rfl ?_   -- 2.9
    refine V_pass (.n .p) (6, false) rfl rfl ?_   -- 2.10
    refine V_pass (.n .p) (6, false) rfl rfl ?_   -- 2.11
    refine V_pickT (.n _) rfl rfl rfl ?_   -- 2.12
    refine V_mov (.n _) rfl rfl ?_   -- 2.13
    refine V_pass (.n .p) (13, false) rfl rfl ?_   -- 2.14
    refine V_pass (.n .p) (13, false) rfl rfl ?_   -- 2.15
    refine V_pass (.n .p) (13, false) rfl rfl ?_   -- 2.16
    refine V_pass (.n .p) (13, false) rfl rfl ?_   -- 2.17
    refine V_pickT (.n _) rfl rfl rfl ?_   -- 2.18
    refine V_mov (.n _) rfl rfl ?_   -- 2.19
    refine V_pass (.n .p) (19, false) rfl rfl ?_   -- 2.20
    refine V_pass (.n .p) (19, false) rfl rfl ?_   -- 2.21
    refine V_pass (.n .p) (19, false) rfl rfl ?_   -- 2.22
    refine V_pass (.n .p) (19, false) rfl rfl ?_   -- 2.23
    refine V_pickT (.n _) rfl rfl rfl ?_   -- 2.24
    refine V_sub [(0, _), (1, _), (2, _), (3, _), (35, _)] ⟨rfl, rfl, rfl, rfl, rfl, trivial⟩ ?_
    refine V_nil (.inl rfl) ?_
    refine E_then ?_
    refine J_condT rfl ?_
    refine J_seq ?_
    refine J_region ?_
    refine V_asg (.n _) rfl rfl ?_   -- 3.0
    refine V_sub [(0, _), (1, _), (2, _), (3, _), (35, _)] ⟨rfl, rfl, rfl, rfl, rfl, trivial⟩ ?_
    refine V_nil (.inl rfl) ?_
    refine E_then ?_
    refine J_ret ?_
    refine E_then_ret ?_
    -- return R0
    refine E_ret1 Tryd.results34 rfl (fun w hw => ?_)
    exact ⟨by rw [validP_no (by first | exact .inl (by omega) | exact .inr (.inl (by omega)) | exact .inr (.inr (.inl (by assumption))) | exact .inr (.inr (.inr (.inl (by omega)))) | exact .inr (.inr (.inr (.inr (.inl (by omega))))) | exact .inr (.inr (.inr (.inr (.inr (.inl (by assumption)))))) | exact .inr (.inr (.inr (.inr (.inr (.inr (by assumption)))))))], hw.sub (fun x hx => by simp at hx) (by simp [keys])⟩
  · skip
    refine V_go (2, false) rfl ?_
    refine V_mov (.n _) rfl rfl ?_   -- 2.3
    refine V_go (2, false) rfl ?_
    refine V_gtr (.n _) rfl rfl rfl ?_   -- 2.4
    refine V_pickF (.n _) rfl rfl rfl ?_   -- 2.5
    refine V_mov (.n _) rfl rfl ?_   -- 2.6
    refine V_split 17 rfl (fun h2 => ?_) (fun h2 => ?_)   -- guard 2.6
    · skip
      refine V_pass (.n .p) (6, false) rfl rfl ?_   -- 2.7
      refine V_pass (.n .p) (6, false) rfl rfl ?_   -- 2.8
      refine V_pass (.n .p) (6, false) rfl rfl ?_   -- 2.9
      refine V_pass (.n .p) (6, false) rfl rfl ?_   -- 2.10
      refine V_pass (.n .p) (6, false) rfl rfl ?_   -- 2.11
      refine V_pickT (.n _) rfl rfl rfl ?_   -- 2.12
      refine V_mov (.n _) rfl rfl ?_   -- 2.13
      refine V_pass (.n .p) (13, false) rfl rfl ?_   -- 2.14
      refine V_pass (.n .p) (13, false) rfl rfl ?_   -- 2.15
      refine V_pass (.n .p) (13, false) rfl rfl ?_   -- 2.16
      refine V_pass (.n .p) (13, false) rfl rfl ?_   -- 2.17
      refine V_pickT (.n _) rfl rfl rfl ?_   -- 2.18
      refine V_mov (.n _) rfl rfl ?_   -- 2.19
      refine V_pass (.n .p) (19, false) rfl rfl ?_   -- 2.20
      refine V_pass (.n .p) (19, false) rfl rfl ?_   -- 2.21
      refine V_pass (.n .p) (19, false) rfl rfl ?_   -- 2.22
      refine V_pass (.n .p) (19, false) rfl rfl ?_   -- 2.23
      refine V_pickT (.n _) rfl rfl rfl ?_   -- 2.24
      refine V_sub [(0, _), (1, _), (2, _), (3, _), (35, _)] ⟨rfl, rfl, rfl, rfl, rfl, trivial⟩ ?_
      refine V_nil (.inl rfl) ?_
      refine E_then ?_
      refine J_condT rfl ?_
      refine J_seq ?_
      refine J_region ?_
      refine V_asg (.n _) rfl rfl ?_   -- 3.0
      refine V_sub [(0, _), (1, _), (2, _), (3, _), (35, _)] ⟨rfl, rfl, rfl, rfl, rfl, trivial⟩ ?_
      refine V_nil (.inl rfl) ?_
      refine E_then ?_
      refine J_ret ?_
      refine E_then_ret ?_
      -- return R1
      refine E_ret1 Tryd.results34 rfl (fun w hw => ?_)
      exact ⟨by rw [validP_no (by first | exact .inl (by omega) | exact .inr (.inl (by omega)) | exact .inr (.inr (.inl (by assumption))) | exact .inr (.inr (.inr (.inl (by omega)))) | exact .inr (.inr (.inr (.inr (.inl (by omega))))) | exact .inr (.inr (.inr (.inr (.inr (.inl (by assumption)))))) | exact .inr (.inr (.inr (.inr (.inr (.inr (by assumption)))))))], hw.sub (fun x hx => by simp at hx) (by simp [keys])⟩
    · skip
      refine V_go (6, false) rfl ?_
      first | refine V_fa0 (.n _) fo48_1 rfl rfl ?_ | refine V_faz (.n _) fo48_1 rfl rfl ?_ | refine V_fa (.n _) fo48_1 rfl rfl ?_   -- 2.7
      refine V_go (6, false) rfl ?_
      refine V_ld (.n _) Tryd.isAgg45 rfl (by repeat (first | exact List.Mem.head _ | assumption | apply List.Mem.tail)) (by rfl) rfl ?_   -- 2.8
      refine V_go (6, false) rfl ?_
      refine V_len (.n _) Tryd.underlying45 rfl rfl ?_   -- 2.9
      refine V_go (6, false) rfl ?_
      refine V_mov (.n _) rfl rfl ?_   -- 2.10
      refine V_go (6, false) rfl ?_
      refine V_neq (.n _) rfl rfl rfl ?_   -- 2.11
      refine V_pickF (.n _) rfl rfl rfl ?_   -- 2.12
      refine V_mov (.n _) rfl rfl ?_   -- 2.13
      refine V_split 24 rfl (fun h3 => ?_) (fun h3 => ?_)   -- guard 2.13
      · skip
        refine V_pass (.n .p) (13, false) rfl rfl ?_   -- 2.14
        refine V_pass (.n .p) (13, false) rfl rfl ?_   -- 2.15
        refine V_pass (.n .p) (13, false) rfl rfl ?_   -- 2.16
        refine V_pass (.n .p) (13, false) rfl rfl ?_   -- 2.17
        refine V_pickT (.n _) rfl rfl rfl ?_   -- 2.18
        refine V_mov (.n _) rfl rfl ?_   -- 2.19
        refine V_pass (.n .p) (19, false) rfl rfl ?_   -- 2.20
        refine V_pass (.n .p) (19, false) rfl rfl ?_   -- 2.21
        refine V_pass (.n .p) (19, false) rfl rfl ?_   -- 2.22
        refine V_pass (.n .p) (19, false) rfl rfl ?_   -- 2.23
        refine V_pickT (.n _) rfl rfl rfl ?_   -- 2.24
        refine V_sub [(0, _), (1, _), (2, _), (3, _), (35, _)] ⟨rfl, rfl, rfl, rfl, rfl, trivial⟩ ?_
        refine V_nil (.inl rfl) ?_
        refine E_then ?_
        refine J_condT rfl ?_
        refine J_seq ?_
        refine J_region ?_
        refine V_asg (.n _) rfl rfl ?_   -- 3.0
        refine V_sub [(0, _), (1, _), (2, _), (3, _), (35, _)] ⟨rfl, rfl, rfl, rfl, rfl, trivial⟩ ?_
        refine V_nil (.inl rfl) ?_
        refine E_then ?_
        refine J_ret ?_
        refine E_then_ret ?_
        -- return R2
        refine E_ret1 Tryd.results34 rfl (fun w hw => ?_)
        exact ⟨by rw [validP_no (by first | exact .inl (by omega) | exact .inr (.inl (by omega)) | exact .inr (.inr (.inl (by assumption))) | exact .inr (.inr (.inr (.inl (by omega)))) | exact .inr (.inr (.inr (.inr (.inl (by omega))))) | exact .inr (.inr (.inr (.inr (.inr (.inl (by assumption)))))) | exact .inr (.inr (.inr (.inr (.inr (.inr (by assumption)))))))], hw.sub (fun x hx => by simp at hx) (by simp [keys])⟩
      · skip
        refine V_go (13, false) rfl ?_
        first | refine V_fa0 (.n _) fo48_2 rfl rfl ?_ | refine V_faz (.n _) fo48_2 rfl rfl ?_ | refine V_fa (.n _) fo48_2 rfl rfl ?_   -- 2.14
        refine V_go (13, false) rfl ?_
        refine V_ld (.n _) Tryd.isAgg46 rfl (by repeat (first | exact List.Mem.head _ | assumption | apply List.Mem.tail)) (by rfl) rfl ?_   -- 2.15
        refine V_go (13, false) rfl ?_
        refine V_len (.n _) Tryd.underlying46 rfl rfl ?_   -- 2.16
        refine V_go (13, false) rfl ?_
        refine V_gtr (.n _) rfl rfl rfl ?_   -- 2.17
        refine V_pickF (.n _) rfl rfl rfl ?_   -- 2.18
        refine V_mov (.n _) rfl rfl ?_   -- 2.19
        refine V_split 30 rfl (fun h4 => ?_) (fun h4 => ?_)   -- guard 2.19
        · skip
          refine V_pass (.n .p) (19, false) rfl rfl ?_   -- 2.20
          refine V_pass (.n .p) (19, false) rfl rfl ?_   -- 2.21
          refine V_pass (.n .p) (19, false) rfl rfl ?_   -- 2.22
          refine V_pass (.n .p) (19, false) rfl rfl ?_   -- 2.23
          refine V_pickT (.n _) rfl rfl rfl ?_   -- 2.24
          refine V_sub [(0, _), (1, _), (2, _), (3, _), (35, _)] ⟨rfl, rfl, rfl, rfl, rfl, trivial⟩ ?_
          refine V_nil (.inl rfl) ?_
          refine E_then ?_
          refine J_condT rfl ?_
          refine J_seq ?_
          refine J_region ?_
          refine V_asg (.n _) rfl rfl ?_   -- 3.0
          refine V_sub [(0, _), (1, _), (2, _), (3, _), (35, _)] ⟨rfl, rfl, rfl, rfl, rfl, trivial⟩ ?_
          refine V_nil (.inl rfl) ?_
          refine E_then ?_
          refine J_ret ?_
          refine E_then_ret ?_
          -- return R3
          refine E_ret1 Tryd.results34 rfl (fun w hw => ?_)
          exact ⟨by rw [validP_no (by first | exact .inl (by omega) | exact .inr (.inl (by omega)) | exact .inr (.inr (.inl (by assumption))) | exact .inr (.inr (.inr (.inl (by omega)))) | exact .inr (.inr (.inr (.inr (.inl (by omega))))) | exact .inr (.inr (.inr (.inr (.inr (.inl (by assumption)))))) | exact .inr (.inr (.inr (.inr (.inr (.inr (by assumption)))))))], hw.sub (fun x hx => by simp at hx) (by simp [keys])⟩
        · skip
          refine V_go (19, false) rfl ?_
          first | refine V_fa0 (.n _) fo48_0 rfl rfl ?_ | refine V_faz (.n _) fo48_0 rfl rfl ?_ | refine V_fa (.n _) fo48_0 rfl rfl ?_   -- 2.20
          refine V_go (19, false) rfl ?_
          refine V_ld (.n _) Tryd.isAgg34 rfl (by repeat (first | exact List.Mem.head _ | assumption | apply List.Mem.tail)) (by rfl) rfl ?_   -- 2.21
          refine V_go (19, false) rfl ?_
          refine V_call0 (.n _) Tryd.call80 (.cons rfl .nil) (fun w1 hw1 => cheap_spec w1 A1 c1 st hl1 (hp.h1.keep hw1)) rfl trivial ?_   -- 2.22
          refine V_go (19, false) rfl ?_
          refine V_notB (.n _) rfl rfl ?_   -- 2.23
          refine V_pickF (.n _) rfl rfl rfl ?_   -- 2.24
          refine V_sub [(0, _), (1, _), (2, _), (3, _), (35, _)] ⟨rfl, rfl, rfl, rfl, rfl, trivial⟩ ?_
          refine V_nil (.inl rfl) ?_
          refine E_then ?_
          refine J_condB rfl (fun h5 => ?_) (fun h5 => ?_)   -- C0
          · have hcs : (!st.all okC) = true → costsB st st.length = false := fun h => costsB_all (by simpa using h)
            first | have hcs := hcs (by assumption) | skip
            refine J_seq ?_
            refine J_region ?_
            refine V_asg (.n _) rfl rfl ?_   -- 3.0
            refine V_sub [(0, _), (1, _), (2, _), (3, _), (35, _)] ⟨rfl, rfl, rfl, rfl, rfl, trivial⟩ ?_
            refine V_nil (.inl rfl) ?_
            refine E_then ?_
            refine J_ret ?_
            refine E_then_ret ?_
            -- return R4
            refine E_ret1 Tryd.results34 rfl (fun w hw => ?_)
            exact ⟨by rw [validP_no (by first | exact .inl (by omega) | exact .inr (.inl (by omega)) | exact .inr (.inr (.inl (by assumption))) | exact .inr (.inr (.inr (.inl (by omega)))) | exact .inr (.inr (.inr (.inr (.inl (by omega))))) | exact .inr (.inr (.inr (.inr (.inr (.inl (by assumption)))))) | exact .inr (.inr (.inr (.inr (.inr (.inr (by assumption)))))))], hw.sub (fun x hx => by simp at hx) (by simp [keys])⟩
          · have hcs : costsB st st.length = true := costsB_of rfl (by simpa using h5)
            refine J_skip ?_
            refine E_then ?_
            refine J_seq ?_
            refine J_seq ?_
            refine J_region ?_
            first | refine V_fa0 (.n _) fo48_1 rfl rfl ?_ | refine V_faz (.n _) fo48_1 rfl rfl ?_ | refine V_fa (.n _) fo48_1 rfl rfl ?_   -- 4.0
            refine V_ld (.n _) Tryd.isAgg45 rfl (by repeat (first | exact List.Mem.head _ | assumption | apply List.Mem.tail)) (by rfl) rfl ?_   -- 4.1
            refine V_len (.n _) Tryd.underlying45 rfl rfl ?_   -- 4.2
            refine V_mov (.n _) rfl rfl ?_   -- 4.3
            refine V_sub [(0, _), (1, _), (2, _), (3, _), (35, _), (37, _), (38, _), (39, _)] ⟨rfl, rfl, rfl, rfl, rfl, rfl, rfl, rfl, trivial⟩ ?_
            refine V_nil (.inl rfl) ?_
            refine E_then ?_
            refine J_block ?_
            -- loop L0
            refine J_loop (X := Nat) (fun k => [(0, (.agg #[.slice A1 st.length c1, .slice A2 ch.length c2, .slice A3 be.length c3])), (1, (.pointer (some ⟨b1, 0, none⟩))), (3, (.int .i64 (st.length : Nat))), (37, (.slice A2 ch.length c2)), (38, (.int .i64 ((ch.length : Nat) : Int))), (39, .int .i64 (k : Nat))]) (fun k => [.c b1 48 [.slice A1 st.length c1, .slice A2 ch.length c2, .slice A3 be.length c3]]) (fun k => k ≤ ch.length ∧ ∀ j, j < k → costsB (ch.getD j []) st.length = true) (fun k => ch.length - k) (0) (by refine ⟨?_, ?_, ?_, ?_, ?_, ?_, trivial⟩ <;> first | rfl | exact int_eq (by omega)) (fun w h => h) ?_ ?_
            · exact ⟨by omega, fun j hj => by omega⟩
            · rintro k ⟨hk, hk2⟩
              refine J_seq ?_
              refine J_region ?_
              refine V_lss (.n _) rfl rfl rfl ?_   -- 5.0
              refine V_sub [(0, _), (1, _), (3, _), (37, _), (38, _), (39, _), (40, _)] ⟨rfl, rfl, rfl, rfl, rfl, rfl, rfl, trivial⟩ ?_
              refine V_nil (.inl rfl) ?_
              refine E_then ?_
              refine J_seq ?_
              refine J_cond rfl (fun h6 => ?_) (fun h6 => ?_)   -- C1
              · skip
                refine J_skip ?_
                refine E_then ?_
                refine J_seq ?_
                refine J_block ?_
                refine J_seq ?_
                refine J_region ?_
                first | refine V_ix (.n _) Tryd.underlying45 Tryd.sizeOf34 rfl rfl (by omega) (by omega) rfl ?_ | refine V_ixz (.n _) Tryd.underlying45 Tryd.sizeOf34 rfl rfl (hp.h2.rd.pl (by rw [hp.h2.len]; omega)) (by omega) (by omega) rfl ?_ | refine V_ixz (.n _) Tryd.underlying45 Tryd.sizeOf34 rfl rfl (hp.h3.pl (by simp; omega)) (by omega) (by omega) rfl ?_   -- 6.0
                obtain ⟨Ai, ci, hrow, hrr⟩ := hp.h2.get (i := k) (by omega)
                refine V_ldz (.n _) Tryd.isAgg34 rfl hp.h2.rd hrow rfl ?_   -- 6.1
                refine V_asg (.n _) rfl rfl ?_   -- 6.2
                refine V_sub [(0, _), (1, _), (3, _), (5, _), (37, _), (38, _), (39, _), (40, _)] ⟨rfl, rfl, rfl, rfl, rfl, rfl, rfl, rfl, trivial⟩ ?_
                refine V_nil (.inl rfl) ?_
                refine E_then ?_
                refine J_seq ?_
                refine J_region ?_
                refine V_mov (.n _) rfl rfl ?_   -- 7.0
                refine V_len (.n _) Tryd.underlying34 rfl rfl ?_   -- 7.1
                refine V_mov (.n _) rfl rfl ?_   -- 7.2
                refine V_neq (.n _) rfl rfl rfl ?_   -- 7.3
                refine V_mov (.n _) rfl rfl ?_   -- 7.4
                refine V_split 47 rfl (fun h7 => ?_) (fun h7 => ?_)   -- guard 7.4
                · have hbad : ∃ r ∈ ch, costsB r st.length = false := ⟨_, getD_mem (d := []) (show k < ch.length by omega), costsB_len (by omega)⟩
                  refine V_pass (.n .p) (4, false) rfl rfl ?_   -- 7.5
                  refine V_pass (.n .p) (4, false) rfl rfl ?_   -- 7.6
                  refine V_pass (.n .p) (4, false) rfl rfl ?_   -- 7.7
                  refine V_pickT (.n _) rfl rfl rfl ?_   -- 7.8
                  refine V_sub [(0, _), (1, _), (3, _), (5, _), (37, _), (38, _), (39, _), (40, _), (51, _)] ⟨rfl, rfl, rfl, rfl, rfl, rfl, rfl, rfl, rfl, trivial⟩ ?_
                  refine V_nil (.inl rfl) ?_
                  refine E_then ?_
                  refine J_condT rfl ?_
                  refine J_seq ?_
                  refine J_region ?_
                  refine V_asg (.n _) rfl rfl ?_   -- 8.0
                  refine V_sub [(0, _), (1, _), (2, _), (3, _), (5, _), (37, _), (38, _), (39, _), (40, _), (51, _)] ⟨rfl, rfl, rfl, rfl, rfl, rfl, rfl, rfl, rfl, rfl, trivial⟩ ?_
                  refine V_nil (.inl rfl) ?_
                  refine E_then ?_
                  refine J_ret ?_
                  refine E_blk_ret ?_
                  refine E_then_ret ?_
                  refine E_lp_ret ?_
                  refine E_blk_ret ?_
                  refine E_then_ret ?_
                  -- return R5
                  refine E_ret1 Tryd.results34 rfl (fun w hw => ?_)
                  exact ⟨by rw [validP_no (by first | exact .inl (by omega) | exact .inr (.inl (by omega)) | exact .inr (.inr (.inl (by assumption))) | exact .inr (.inr (.inr (.inl (by omega)))) | exact .inr (.inr (.inr (.inr (.inl (by omega))))) | exact .inr (.inr (.inr (.inr (.inr (.inl (by assumption)))))) | exact .inr (.inr (.inr (.inr (.inr (.inr (by assumption)))))))], hw.sub (fun x hx => by simp at hx) (by simp [keys])⟩
                · skip
                  refine V_go (4, false) rfl ?_
                  refine V_mov (.n _) rfl rfl ?_   -- 7.5
                  refine V_go (4, false) rfl ?_
                  refine V_call0 (.n _) Tryd.call80 (.cons rfl .nil) (fun w1 hw1 => cheap_spec w1 Ai ci (ch.getD k []) (hlr _ (getD_mem (by omega))) (hrr.keep hw1)) rfl trivial ?_   -- 7.6
                  refine V_go (4, false) rfl ?_
                  refine V_notB (.n _) rfl rfl ?_   -- 7.7
                  refine V_pickF (.n _) rfl rfl rfl ?_   -- 7.8
                  refine V_sub [(0, _), (1, _), (3, _), (5, _), (37, _), (38, _), (39, _), (40, _), (51, _)] ⟨rfl, rfl, rfl, rfl, rfl, rfl, rfl, rfl, rfl, trivial⟩ ?_
                  refine V_nil (.inl rfl) ?_
                  refine E_then ?_
                  refine J_condB rfl (fun h8 => ?_) (fun h8 => ?_)   -- C2
                  · first | skip | skip
                    have hbad : ∃ r ∈ ch, costsB r st.length = false := ⟨_, getD_mem (d := []) (show k < ch.length by omega), by first | exact costsB_len (by omega) | exact costsB_all (by simp_all)⟩
                    refine J_seq ?_
                    refine J_region ?_
                    refine V_asg (.n _) rfl rfl ?_   -- 8.0
                    refine V_sub [(0, _), (1, _), (2, _), (3, _), (5, _), (37, _), (38, _), (39, _), (40, _), (51, _)] ⟨rfl, rfl, rfl, rfl, rfl, rfl, rfl, rfl, rfl, rfl, trivial⟩ ?_
                    refine V_nil (.inl rfl) ?_
                    refine E_then ?_
                    refine J_ret ?_
                    refine E_blk_ret ?_
                    refine E_then_ret ?_
                    refine E_lp_ret ?_
                    refine E_blk_ret ?_
                    refine E_then_ret ?_
                    -- return R6
                    refine E_ret1 Tryd.results34 rfl (fun w hw => ?_)
                    exact ⟨by rw [validP_no (by first | exact .inl (by omega) | exact .inr (.inl (by omega)) | exact .inr (.inr (.inl (by assumption))) | exact .inr (.inr (.inr (.inl (by omega)))) | exact .inr (.inr (.inr (.inr (.inl (by omega))))) | exact .inr (.inr (.inr (.inr (.inr (.inl (by assumption)))))) | exact .inr (.inr (.inr (.inr (.inr (.inr (by assumption)))))))], hw.sub (fun x hx => by simp at hx) (by simp [keys])⟩
                  · have hgood : costsB (ch.getD k []) st.length = true := costsB_of (by omega) (by simpa using h8)
                    refine J_skip ?_
                    refine E_blk ?_
                    refine E_then ?_
                    refine J_region ?_
                    refine V_add (.n _) rfl rfl (wrap_ok (by omega)) rfl ?_   -- 9.0
                    refine V_mov (.n _) rfl rfl ?_   -- 9.1
                    refine V_sub [(0, _), (1, _), (3, _), (5, _), (37, _), (38, _), (39, _), (40, _), (51, _)] ⟨rfl, rfl, rfl, rfl, rfl, rfl, rfl, rfl, rfl, trivial⟩ ?_
                    refine V_nil (.inl rfl) ?_
                    -- again L0 0
                    refine E_again (k + 1) ?_ ?_ ?_ (fun w h => h)
                    · omega
                    · refine ⟨by omega, fun j hj => ?_⟩
                      by_cases e : j = k
                      · subst e; assumption
                      · exact hk2 j (by omega)
                    · refine ⟨?_, ?_, ?_, ?_, ?_, ?_, trivial⟩ <;> first | rfl | exact int_eq (by omega) | exact int_eq (by dsimp only; omega)
              · skip
                refine J_exit ?_
                refine E_then_exit ?_
                refine E_lp_exit ?_
                refine E_blk_hit ?_
                refine E_then ?_
                refine J_seq ?_
                refine J_seq ?_
                refine J_region ?_
                first | refine V_fa0 (.n _) fo48_2 rfl rfl ?_ | refine V_faz (.n _) fo48_2 rfl rfl ?_ | refine V_fa (.n _) fo48_2 rfl rfl ?_   -- 10.0
                refine V_ld (.n _) Tryd.isAgg46 rfl (by repeat (first | exact List.Mem.head _ | assumption | apply List.Mem.tail)) (by rfl) rfl ?_   -- 10.1
                refine V_len (.n _) Tryd.underlying46 rfl rfl ?_   -- 10.2
                refine V_mov (.n _) rfl rfl ?_   -- 10.3
                refine V_sub [(0, _), (1, _), (3, _), (37, _), (38, _), (39, _), (40, _), (54, _), (55, _), (56, _)] ⟨rfl, rfl, rfl, rfl, rfl, rfl, rfl, rfl, rfl, rfl, trivial⟩ ?_
                refine V_nil (.inl rfl) ?_
                refine E_then ?_
                refine J_block ?_
                -- loop L1
                have hch : ∀ j, j < ch.length → costsB (ch.getD j []) st.length = true := fun j hj => hk2 j (by omega)
                clear hk2
                refine J_loop (X := Nat) (fun k => [(0, (.agg #[.slice A1 st.length c1, .slice A2 ch.length c2, .slice A3 be.length c3])), (1, (.pointer (some ⟨b1, 0, none⟩))), (3, (.int .i64 (st.length : Nat))), (54, (.slice A3 be.length c3)), (55, (.int .i64 ((be.length : Nat) : Int))), (56, .int .i64 (k : Nat))]) (fun k => [.c b1 48 [.slice A1 st.length c1, .slice A2 ch.length c2, .slice A3 be.length c3]]) (fun k => k ≤ be.length ∧ ∀ j, j < k → okB st.length (be.getD j (0, 0)) = true) (fun k => be.length - k) (0) (by refine ⟨?_, ?_, ?_, ?_, ?_, ?_, trivial⟩ <;> first | rfl | exact int_eq (by omega)) (fun w h => h) ?_ ?_
                · exact ⟨by omega, fun j hj => by omega⟩
                · rintro k ⟨hk, hk3⟩
                  refine J_seq ?_
                  refine J_region ?_
                  refine V_lss (.n _) rfl rfl rfl ?_   -- 11.0
                  refine V_sub [(0, _), (1, _), (3, _), (54, _), (55, _), (56, _), (57, _)] ⟨rfl, rfl, rfl, rfl, rfl, rfl, rfl, trivial⟩ ?_
                  refine V_nil (.inl rfl) ?_
                  refine E_then ?_
                  refine J_seq ?_
                  refine J_cond rfl (fun h9 => ?_) (fun h9 => ?_)   -- C3
                  · skip
                    refine J_skip ?_
                    refine E_then ?_
                    refine J_seq ?_
                    refine J_block ?_
                    refine J_seq ?_
                    refine J_region ?_
                    first | refine V_ix (.n _) Tryd.underlying46 Tryd.sizeOf49 rfl rfl (by omega) (by omega) rfl ?_ | refine V_ixz (.n _) Tryd.underlying46 Tryd.sizeOf49 rfl rfl (hp.h2.rd.pl (by rw [hp.h2.len]; omega)) (by omega) (by omega) rfl ?_ | refine V_ixz (.n _) Tryd.underlying46 Tryd.sizeOf49 rfl rfl (hp.h3.pl (by simp; omega)) (by omega) (by omega) rfl ?_   -- 12.0
                    have hbp := Bp_two (be := be) (i := k) (by omega)
                    generalize hbk : be.getD k (0, 0) = x at *
                    refine V_ldzN (vs := [.int .i64 x.1, .int .i64 x.2]) (.n _) Tryd.isAgg49 Tryd.sizeOf49 rfl hp.h3 hbp rfl rfl ?_   -- 12.1
                    refine V_alloc (.n _) Tryd.zeroValue49 rfl rfl (fun _ => trivial) (fun b7 => ?_)   -- 12.2
                    refine V_stN (.n _) Tryd.sizeOf49 rfl rfl rfl (by simp [Value.oneCell']) (by repeat (first | exact SetAt.z | apply SetAt.s)) rfl rfl ?_   -- 12.3
                    refine V_sub [(0, _), (1, _), (3, _), (7, _), (54, _), (55, _), (56, _), (57, _)] ⟨rfl, rfl, rfl, rfl, rfl, rfl, rfl, rfl, trivial⟩ ?_
                    refine V_nil (.inl rfl) ?_
                    refine E_then ?_
                    refine J_seq ?_
                    refine J_region ?_
                    refine V_ixA (.n _) Tryd.underlying49 Tryd.sizeOf3 rfl rfl (by omega) (by omega) rfl ?_   -- 13.0
                    refine V_ld (.n _) Tryd.isAgg3 rfl (by repeat (first | exact List.Mem.head _ | assumption | apply List.Mem.tail)) (by rfl) rfl ?_   -- 13.1
                    refine V_lss (.n _) rfl rfl rfl ?_   -- 13.2
                    refine V_mov (.n _) rfl rfl ?_   -- 13.3
                    refine V_split 63 rfl (fun h10 => ?_) (fun h10 => ?_)   -- guard 13.3
                    · have hbad : ∃ b ∈ be, okB st.length b = false := ⟨x, hbk ▸ getD_mem (d := (0, 0)) (show k < be.length by omega), okB_no (by omega)⟩
                      refine V_pass (.n .p) (3, false) rfl rfl ?_   -- 13.4
                      refine V_pass (.n .p) (3, false) rfl rfl ?_   -- 13.5
                      refine V_pass (.n .p) (3, false) rfl rfl ?_   -- 13.6
                      refine V_pass (.n .p) (3, false) rfl rfl ?_   -- 13.7
                      refine V_pickT (.n _) rfl rfl rfl ?_   -- 13.8
                      refine V_mov (.n _) rfl rfl ?_   -- 13.9
                      refine V_pass (.n .p) (9, false) rfl rfl ?_   -- 13.10
                      refine V_pass (.n .p) (9, false) rfl rfl ?_   -- 13.11
                      refine V_pass (.n .p) (9, false) rfl rfl ?_   -- 13.12
                      refine V_pickT (.n _) rfl rfl rfl ?_   -- 13.13
                      refine V_mov (.n _) rfl rfl ?_   -- 13.14
                      refine V_pass (.n .p) (14, false) rfl rfl ?_   -- 13.15
                      refine V_pass (.n .p) (14, false) rfl rfl ?_   -- 13.16
                      refine V_pass (.n .p) (14, false) rfl rfl ?_   -- 13.17
                      refine V_pass (.n .p) (14, false) rfl rfl ?_   -- 13.18
                      refine V_pickT (.n _) rfl rfl rfl ?_   -- 13.19
                      refine V_mov (.n _) rfl rfl ?_   -- 13.20
                      refine V_pass (.n .p) (20, false) rfl rfl ?_   -- 13.21
                      refine V_pass (.n .p) (20, false) rfl rfl ?_   -- 13.22
                      refine V_pass (.n .p) (20, false) rfl rfl ?_   -- 13.23
                      refine V_pass (.n .p) (20, false) rfl rfl ?_   -- 13.24
                      refine V_pass (.n .p) (20, false) rfl rfl ?_   -- 13.25
                      refine V_pickT (.n _) rfl rfl rfl ?_   -- 13.26
                      refine V_sub [(0, _), (1, _), (3, _), (7, _), (54, _), (55, _), (56, _), (57, _), (86, _)] ⟨rfl, rfl, rfl, rfl, rfl, rfl, rfl, rfl, rfl, trivial⟩ ?_
                      refine V_nil (.inl rfl) ?_
                      refine E_then ?_
                      refine J_condT rfl ?_
                      refine J_seq ?_
                      refine J_region ?_
                      refine V_asg (.n _) rfl rfl ?_   -- 14.0
                      refine V_sub [(0, _), (1, _), (2, _), (3, _), (7, _), (54, _), (55, _), (56, _), (57, _), (86, _)] ⟨rfl, rfl, rfl, rfl, rfl, rfl, rfl, rfl, rfl, rfl, trivial⟩ ?_
                      refine V_nil (.inl rfl) ?_
                      refine E_then ?_
                      refine J_ret ?_
                      refine E_blk_ret ?_
                      refine E_then_ret ?_
                      refine E_lp_ret ?_
                      refine E_blk_ret ?_
                      refine E_then_ret ?_
                      -- return R7
                      refine E_ret1 Tryd.results34 rfl (fun w hw => ?_)
                      exact ⟨by rw [validP_no (by first | exact .inl (by omega) | exact .inr (.inl (by omega)) | exact .inr (.inr (.inl (by assumption))) | exact .inr (.inr (.inr (.inl (by omega)))) | exact .inr (.inr (.inr (.inr (.inl (by omega))))) | exact .inr (.inr (.inr (.inr (.inr (.inl (by assumption)))))) | exact .inr (.inr (.inr (.inr (.inr (.inr (by assumption)))))))], hw.sub (fun x hx => by simp at hx) (by simp [keys])⟩
                    · skip
                      refine V_go (3, false) rfl ?_
                      refine V_ixA (.n _) Tryd.underlying49 Tryd.sizeOf3 rfl rfl (by omega) (by omega) rfl ?_   -- 13.4
                      refine V_go (3, false) rfl ?_
                      refine V_ld (.n _) Tryd.isAgg3 rfl (by repeat (first | exact List.Mem.head _ | assumption | apply List.Mem.tail)) (by rfl) rfl ?_   -- 13.5
                      refine V_go (3, false) rfl ?_
                      refine V_mov (.n _) rfl rfl ?_   -- 13.6
                      refine V_go (3, false) rfl ?_
                      refine V_geq (.n _) rfl rfl rfl ?_   -- 13.7
                      refine V_pickF (.n _) rfl rfl rfl ?_   -- 13.8
                      refine V_mov (.n _) rfl rfl ?_   -- 13.9
                      refine V_split 69 rfl (fun h11 => ?_) (fun h11 => ?_)   -- guard 13.9
                      · have hbad : ∃ b ∈ be, okB st.length b = false := ⟨x, hbk ▸ getD_mem (d := (0, 0)) (show k < be.length by omega), okB_no (by omega)⟩
                        refine V_pass (.n .p) (9, false) rfl rfl ?_   -- 13.10
                        refine V_pass (.n .p) (9, false) rfl rfl ?_   -- 13.11
                        refine V_pass (.n .p) (9, false) rfl rfl ?_   -- 13.12
                        refine V_pickT (.n _) rfl rfl rfl ?_   -- 13.13
                        refine V_mov (.n _) rfl rfl ?_   -- 13.14
                        refine V_pass (.n .p) (14, false) rfl rfl ?_   -- 13.15
                        refine V_pass (.n .p) (14, false) rfl rfl ?_   -- 13.16
                        refine V_pass (.n .p) (14, false) rfl rfl ?_   -- 13.17
                        refine V_pass (.n .p) (14, false) rfl rfl ?_   -- 13.18
                        refine V_pickT (.n _) rfl rfl rfl ?_   -- 13.19
                        refine V_mov (.n _) rfl rfl ?_   -- 13.20
                        refine V_pass (.n .p) (20, false) rfl rfl ?_   -- 13.21
                        refine V_pass (.n .p) (20, false) rfl rfl ?_   -- 13.22
                        refine V_pass (.n .p) (20, false) rfl rfl ?_   -- 13.23
                        refine V_pass (.n .p) (20, false) rfl rfl ?_   -- 13.24
                        refine V_pass (.n .p) (20, false) rfl rfl ?_   -- 13.25
                        refine V_pickT (.n _) rfl rfl rfl ?_   -- 13.26
                        refine V_sub [(0, _), (1, _), (3, _), (7, _), (54, _), (55, _), (56, _), (57, _), (86, _)] ⟨rfl, rfl, rfl, rfl, rfl, rfl, rfl, rfl, rfl, trivial⟩ ?_
                        refine V_nil (.inl rfl) ?_
                        refine E_then ?_
                        refine J_condT rfl ?_
                        refine J_seq ?_
                        refine J_region ?_
                        refine V_asg (.n _) rfl rfl ?_   -- 14.0
                        refine V_sub [(0, _), (1, _), (2, _), (3, _), (7, _), (54, _), (55, _), (56, _), (57, _), (86, _)] ⟨rfl, rfl, rfl, rfl, rfl, rfl, rfl, rfl, rfl, rfl, trivial⟩ ?_
                        refine V_nil (.inl rfl) ?_
                        refine E_then ?_
                        refine J_ret ?_
                        refine E_blk_ret ?_
                        refine E_then_ret ?_
                        refine E_lp_ret ?_
                        refine E_blk_ret ?_
                        refine E_then_ret ?_
                        -- return R8
                        refine E_ret1 Tryd.results34 rfl (fun w hw => ?_)
                        exact ⟨by rw [validP_no (by first | exact .inl (by omega) | exact .inr (.inl (by omega)) | exact .inr (.inr (.inl (by assumption))) | exact .inr (.inr (.inr (.inl (by omega)))) | exact .inr (.inr (.inr (.inr (.inl (by omega))))) | exact .inr (.inr (.inr (.inr (.inr (.inl (by assumption)))))) | exact .inr (.inr (.inr (.inr (.inr (.inr (by assumption)))))))], hw.sub (fun x hx => by simp at hx) (by simp [keys])⟩
                      · skip
                        refine V_go (9, false) rfl ?_
                        refine V_ixA (.n _) Tryd.underlying49 Tryd.sizeOf3 rfl rfl (by omega) (by omega) rfl ?_   -- 13.10
                        refine V_go (9, false) rfl ?_
                        refine V_ld (.n _) Tryd.isAgg3 rfl (by repeat (first | exact List.Mem.head _ | assumption | apply List.Mem.tail)) (by rfl) rfl ?_   -- 13.11
                        refine V_go (9, false) rfl ?_
                        refine V_lss (.n _) rfl rfl rfl ?_   -- 13.12
                        refine V_pickF (.n _) rfl rfl rfl ?_   -- 13.13
                        refine V_mov (.n _) rfl rfl ?_   -- 13.14
                        refine V_split 74 rfl (fun h12 => ?_) (fun h12 => ?_)   -- guard 13.14
                        · have hbad : ∃ b ∈ be, okB st.length b = false := ⟨x, hbk ▸ getD_mem (d := (0, 0)) (show k < be.length by omega), okB_no (by omega)⟩
                          refine V_pass (.n .p) (14, false) rfl rfl ?_   -- 13.15
                          refine V_pass (.n .p) (14, false) rfl rfl ?_   -- 13.16
                          refine V_pass (.n .p) (14, false) rfl rfl ?_   -- 13.17
                          refine V_pass (.n .p) (14, false) rfl rfl ?_   -- 13.18
                          refine V_pickT (.n _) rfl rfl rfl ?_   -- 13.19
                          refine V_mov (.n _) rfl rfl ?_   -- 13.20
                          refine V_pass (.n .p) (20, false) rfl rfl ?_   -- 13.21
                          refine V_pass (.n .p) (20, false) rfl rfl ?_   -- 13.22
                          refine V_pass (.n .p) (20, false) rfl rfl ?_   -- 13.23
                          refine V_pass (.n .p) (20, false) rfl rfl ?_   -- 13.24
                          refine V_pass (.n .p) (20, false) rfl rfl ?_   -- 13.25
                          refine V_pickT (.n _) rfl rfl rfl ?_   -- 13.26
                          refine V_sub [(0, _), (1, _), (3, _), (7, _), (54, _), (55, _), (56, _), (57, _), (86, _)] ⟨rfl, rfl, rfl, rfl, rfl, rfl, rfl, rfl, rfl, trivial⟩ ?_
                          refine V_nil (.inl rfl) ?_
                          refine E_then ?_
                          refine J_condT rfl ?_
                          refine J_seq ?_
                          refine J_region ?_
                          refine V_asg (.n _) rfl rfl ?_   -- 14.0
                          refine V_sub [(0, _), (1, _), (2, _), (3, _), (7, _), (54, _), (55, _), (56, _), (57, _), (86, _)] ⟨rfl, rfl, rfl, rfl, rfl, rfl, rfl, rfl, rfl, rfl, trivial⟩ ?_
                          refine V_nil (.inl rfl) ?_
                          refine E_then ?_
                          refine J_ret ?_
                          refine E_blk_ret ?_
                          refine E_then_ret ?_
                          refine E_lp_ret ?_
                          refine E_blk_ret ?_
                          refine E_then_ret ?_
                          -- return R9
                          refine E_ret1 Tryd.results34 rfl (fun w hw => ?_)
                          exact ⟨by rw [validP_no (by first | exact .inl (by omega) | exact .inr (.inl (by omega)) | exact .inr (.inr (.inl (by assumption))) | exact .inr (.inr (.inr (.inl (by omega)))) | exact .inr (.inr (.inr (.inr (.inl (by omega))))) | exact .inr (.inr (.inr (.inr (.inr (.inl (by assumption)))))) | exact .inr (.inr (.inr (.inr (.inr (.inr (by assumption)))))))], hw.sub (fun x hx => by simp at hx) (by simp [keys])⟩
                        · skip
                          refine V_go (14, false) rfl ?_
                          refine V_ixA (.n _) Tryd.underlying49 Tryd.sizeOf3 rfl rfl (by omega) (by omega) rfl ?_   -- 13.15
                          refine V_go (14, false) rfl ?_
                          refine V_ld (.n _) Tryd.isAgg3 rfl (by repeat (first | exact List.Mem.head _ | assumption | apply List.Mem.tail)) (by rfl) rfl ?_   -- 13.16
                          refine V_go (14, false) rfl ?_
                          refine V_mov (.n _) rfl rfl ?_   -- 13.17
                          refine V_go (14, false) rfl ?_
                          refine V_geq (.n _) rfl rfl rfl ?_   -- 13.18
                          refine V_pickF (.n _) rfl rfl rfl ?_   -- 13.19
                          refine V_mov (.n _) rfl rfl ?_   -- 13.20
                          refine V_split 80 rfl (fun h13 => ?_) (fun h13 => ?_)   -- guard 13.20
                          · have hbad : ∃ b ∈ be, okB st.length b = false := ⟨x, hbk ▸ getD_mem (d := (0, 0)) (show k < be.length by omega), okB_no (by omega)⟩
                            refine V_pass (.n .p) (20, false) rfl rfl ?_   -- 13.21
                            refine V_pass (.n .p) (20, false) rfl rfl ?_   -- 13.22
                            refine V_pass (.n .p) (20, false) rfl rfl ?_   -- 13.23
                            refine V_pass (.n .p) (20, false) rfl rfl ?_   -- 13.24
                            refine V_pass (.n .p) (20, false) rfl rfl ?_   -- 13.25
                            refine V_pickT (.n _) rfl rfl rfl ?_   -- 13.26
                            refine V_sub [(0, _), (1, _), (3, _), (7, _), (54, _), (55, _), (56, _), (57, _), (86, _)] ⟨rfl, rfl, rfl, rfl, rfl, rfl, rfl, rfl, rfl, trivial⟩ ?_
                            refine V_nil (.inl rfl) ?_
                            refine E_then ?_
                            refine J_condT rfl ?_
                            refine J_seq ?_
                            refine J_region ?_
                            refine V_asg (.n _) rfl rfl ?_   -- 14.0
                            refine V_sub [(0, _), (1, _), (2, _), (3, _), (7, _), (54, _), (55, _), (56, _), (57, _), (86, _)] ⟨rfl, rfl, rfl, rfl, rfl, rfl, rfl, rfl, rfl, rfl, trivial⟩ ?_
                            refine V_nil (.inl rfl) ?_
                            refine E_then ?_
                            refine J_ret ?_
                            refine E_blk_ret ?_
                            refine E_then_ret ?_
                            refine E_lp_ret ?_
                            refine E_blk_ret ?_
                            refine E_then_ret ?_
                            -- return R10
                            refine E_ret1 Tryd.results34 rfl (fun w hw => ?_)
                            exact ⟨by rw [validP_no (by first | exact .inl (by omega) | exact .inr (.inl (by omega)) | exact .inr (.inr (.inl (by assumption))) | exact .inr (.inr (.inr (.inl (by omega)))) | exact .inr (.inr (.inr (.inr (.inl (by omega))))) | exact .inr (.inr (.inr (.inr (.inr (.inl (by assumption)))))) | exact .inr (.inr (.inr (.inr (.inr (.inr (by assumption)))))))], hw.sub (fun x hx => by simp at hx) (by simp [keys])⟩
                          · skip
                            refine V_go (20, false) rfl ?_
                            refine V_ixA (.n _) Tryd.underlying49 Tryd.sizeOf3 rfl rfl (by omega) (by omega) rfl ?_   -- 13.21
                            refine V_go (20, false) rfl ?_
                            refine V_ld (.n _) Tryd.isAgg3 rfl (by repeat (first | exact List.Mem.head _ | assumption | apply List.Mem.tail)) (by rfl) rfl ?_   -- 13.22
                            refine V_go (20, false) rfl ?_
                            refine V_ixA (.n _) Tryd.underlying49 Tryd.sizeOf3 rfl rfl (by omega) (by omega) rfl ?_   -- 13.23
                            refine V_go (20, false) rfl ?_
                            refine V_ld (.n _) Tryd.isAgg3 rfl (by repeat (first | exact List.Mem.head _ | assumption | apply List.Mem.tail)) (by rfl) rfl ?_   -- 13.24
                            refine V_go (20, false) rfl ?_
                            refine V_eql (.n _) rfl rfl rfl ?_   -- 13.25
                            refine V_pickF (.n _) rfl rfl rfl ?_   -- 13.26
                            refine V_sub [(0, _), (1, _), (3, _), (7, _), (54, _), (55, _), (56, _), (57, _), (86, _)] ⟨rfl, rfl, rfl, rfl, rfl, rfl, rfl, rfl, rfl, trivial⟩ ?_
                            refine V_nil (.inl rfl) ?_
                            refine E_then ?_
                            refine J_cond rfl (fun h14 => ?_) (fun h14 => ?_)   -- C4
                            · have hbad : ∃ b ∈ be, okB st.length b = false := ⟨x, hbk ▸ getD_mem (d := (0, 0)) (show k < be.length by omega), okB_no (by omega)⟩
                              refine J_seq ?_
                              refine J_region ?_
                              refine V_asg (.n _) rfl rfl ?_   -- 14.0
                              refine V_sub [(0, _), (1, _), (2, _), (3, _), (7, _), (54, _), (55, _), (56, _), (57, _), (86, _)] ⟨rfl, rfl, rfl, rfl, rfl, rfl, rfl, rfl, rfl, rfl, trivial⟩ ?_
                              refine V_nil (.inl rfl) ?_
                              refine E_then ?_
                              refine J_ret ?_
                              refine E_blk_ret ?_
                              refine E_then_ret ?_
                              refine E_lp_ret ?_
                              refine E_blk_ret ?_
                              refine E_then_ret ?_
                              -- return R11
                              refine E_ret1 Tryd.results34 rfl (fun w hw => ?_)
                              exact ⟨by rw [validP_no (by first | exact .inl (by omega) | exact .inr (.inl (by omega)) | exact .inr (.inr (.inl (by assumption))) | exact .inr (.inr (.inr (.inl (by omega)))) | exact .inr (.inr (.inr (.inr (.inl (by omega))))) | exact .inr (.inr (.inr (.inr (.inr (.inl (by assumption)))))) | exact .inr (.inr (.inr (.inr (.inr (.inr (by assumption)))))))], hw.sub (fun x hx => by simp at hx) (by simp [keys])⟩
                            · have hgood : okB st.length x = true := okB_yes (by assumption) (by assumption) (by assumption) (by assumption) (by assumption)
                              refine J_skip ?_
                              refine E_blk ?_
                              refine E_then ?_
                              refine J_region ?_
                              refine V_add (.n _) rfl rfl (wrap_ok (by omega)) rfl ?_   -- 15.0
                              refine V_mov (.n _) rfl rfl ?_   -- 15.1
                              refine V_sub [(0, _), (1, _), (3, _), (7, _), (54, _), (55, _), (56, _), (57, _), (86, _)] ⟨rfl, rfl, rfl, rfl, rfl, rfl, rfl, rfl, rfl, trivial⟩ ?_
                              refine V_nil (.inl rfl) ?_
                              -- again L1 0
                              refine E_again (k + 1) ?_ ?_ ?_ (fun w h => h.sublist (by simp))
                              · omega
                              · refine ⟨by omega, fun j hj => ?_⟩
                                by_cases e : j = k
                                · subst e; rw [hbk]; assumption
                                · exact hk3 j (by omega)
                              · refine ⟨?_, ?_, ?_, ?_, ?_, ?_, trivial⟩ <;> first | rfl | exact int_eq (by omega) | exact int_eq (by dsimp only; omega)
                  · skip
                    refine J_exit ?_
                    refine E_then_exit ?_
                    refine E_lp_exit ?_
                    refine E_blk_hit ?_
                    refine E_then ?_
                    refine J_seq ?_
                    refine J_region ?_
                    refine V_asg (.n _) rfl rfl ?_   -- 16.0
                    refine V_sub [(0, _), (1, _), (2, _), (3, _), (54, _), (55, _), (56, _), (57, _)] ⟨rfl, rfl, rfl, rfl, rfl, rfl, rfl, rfl, trivial⟩ ?_
                    refine V_nil (.inl rfl) ?_
                    refine E_then ?_
                    refine J_ret ?_
                    -- return R12
                    refine E_ret1 Tryd.results34 rfl (fun w hw => ?_)
                    refine ⟨?_, hw.sub (fun x hx => by simp at hx) (by simp [keys])⟩
                    have hall : ∀ r ∈ ch, costsB r st.length = true := fun r hr => by
                      obtain ⟨i, hi, rfl⟩ := List.mem_iff_getElem.1 hr
                      have := hch i hi
                      simpa [hi] using this
                    have hall2 : ∀ b ∈ be, okB st.length b = true := fun b hb => by
                      obtain ⟨i, hi, rfl⟩ := List.mem_iff_getElem.1 hb
                      have := hk3 i (by omega)
                      simpa [hi] using this
                    rw [validP_iff.2 ⟨by omega, by omega, hcs, by omega, by omega, hall, hall2⟩]

theorem order_spec (w : World) (A1 A2 A3 : Option Addr) (c1 c2 c3 : Nat) (vs : List Value) (st : List Int) (ch : Rows2) (be : List (Int × Int)) (hl1 : st.length ≤ 140737488351232) (hl2 : ch.length ≤ 140737488351232) (hl3 : be.length ≤ 140737488351232) (hp : PR w A1 A2 A3 vs st ch be) (hv : VP st ch be) (AO : Option Addr) (cO : Nat) (os : List Int) (hlo : os.length ≤ 140737488351232) (ho : Rd w AO (I os)) : Calls Tryd.prog 84 #[.agg #[.slice A1 st.length c1, .slice A2 ch.length c2, .slice A3 be.length c3], .slice AO os.length cO] w fun e w' => e = .returned (.bool (ordB st.length (natB be) os)) ∧ St w [] w' := by
  have hn10 := hv.n10
  have hn01 := hv.n1
  have hp1 := pow1024 hn10
  have hN := n2n hn10
  have hp0 := Nat.pow_pos (n := st.length) (show 0 < 2 by decide)
  have hchl := hv.chl
  have hfar : far2 = 1099511627776 := rfl
  refine calls (args := [.agg #[.slice A1 st.length c1, .slice A2 ch.length c2, .slice A3 be.length c3], .slice AO os.length cO]) Tryd.func84 rfl Tryd.ntmps84 (Nat.le_of_ble_eq_true rfl) (St.refl w) ?_
  refine J_seq ?_
  refine J_region ?_
  refine V_box (.n _) rfl rfl rfl (fun _ => trivial) (fun b2 => ?_)   -- 0.0
  refine V_asg (.n _) rfl rfl ?_   -- 0.1
  refine V_sub [(0, _), (1, _), (2, _), (4, _)] ⟨rfl, rfl, rfl, rfl, trivial⟩ ?_
  refine V_nil (.inl rfl) ?_
  refine E_then ?_
  refine J_seq ?_
  refine J_region ?_
  refine V_asg (.n _) rfl rfl ?_   -- 1.0
  refine V_sub [(0, _), (1, _), (2, _), (4, _), (5, _)] ⟨rfl, rfl, rfl, rfl, rfl, trivial⟩ ?_
  refine V_nil (.inl rfl) ?_
  refine E_then ?_
  refine J_seq ?_
  refine J_seq ?_
  refine J_region ?_
  refine V_mov (.n _) rfl rfl ?_   -- 2.0
  refine V_len (.n _) Tryd.underlying34 rfl rfl ?_   -- 2.1
  refine V_mov (.n _) rfl rfl ?_   -- 2.2
  refine V_sub [(0, _), (1, _), (2, _), (4, _), (5, _), (8, _), (9, _), (10, _)] ⟨rfl, rfl, rfl, rfl, rfl, rfl, rfl, rfl, trivial⟩ ?_
  refine V_nil (.inl rfl) ?_
  refine E_then ?_
  refine J_block ?_
  -- loop L0
  refine J_loop (X := Nat) (fun k => [(0, (.agg #[.slice A1 st.length c1, .slice A2 ch.length c2, .slice A3 be.length c3])), (1, (.slice AO os.length cO)), (2, (.pointer (some ⟨b2, 0, none⟩))), (5, .int .i64 ((endO 0 ((ns os).take k) : Nat) : Int)), (8, (.slice AO os.length cO)), (9, (.int .i64 ((os.length : Nat) : Int))), (10, .int .i64 (k : Nat))]) (fun k => [.c b2 48 [.slice A1 st.length c1, .slice A2 ch.length c2, .slice A3 be.length c3]]) (fun k => k ≤ os.length ∧ okO st.length (natB be) 0 ((ns os).take k) = true ∧ ∀ i, i < k → 0 ≤ os.getD i 0 ∧ os.getD i 0 < st.length) (fun k => os.length - k) (0) (by refine ⟨?_, ?_, ?_, ?_, ?_, ?_, ?_, trivial⟩ <;> first | rfl | exact int_eq (by omega)) (fun w h => h) ?_ ?_
  · exact ⟨Nat.zero_le _, rfl, fun i hi => by omega⟩
  · rintro k ⟨hk, hok, hrg⟩
    refine J_seq ?_
    refine J_region ?_
    refine V_lss (.n _) rfl rfl rfl ?_   -- 3.0
    refine V_sub [(0, _), (1, _), (2, _), (5, _), (8, _), (9, _), (10, _), (11, _)] ⟨rfl, rfl, rfl, rfl, rfl, rfl, rfl, rfl, trivial⟩ ?_
    refine V_nil (.inl rfl) ?_
    refine E_then ?_
    refine J_seq ?_
    refine J_cond rfl (fun h1 => ?_) (fun h1 => ?_)   -- C0
    · skip
      refine J_skip ?_
      refine E_then ?_
      refine J_seq ?_
      refine J_block ?_
      refine J_seq ?_
      refine J_region ?_
      first | refine V_ix (.n _) Tryd.underlying34 Tryd.sizeOf3 rfl rfl (by omega) (by omega) rfl ?_ | refine V_ixz (.n _) Tryd.underlying34 Tryd.sizeOf3 rfl rfl (ho.pl (by simp)) (by omega) (by omega) rfl ?_   -- 4.0
      refine V_ldz (.n _) Tryd.isAgg3 rfl ho (I_getN (i := k) (by omega)) rfl ?_   -- 4.1
      refine V_asg (.n _) rfl rfl ?_   -- 4.2
      refine V_sub [(0, _), (1, _), (2, _), (5, _), (7, _), (8, _), (9, _), (10, _), (11, _)] ⟨rfl, rfl, rfl, rfl, rfl, rfl, rfl, rfl, rfl, trivial⟩ ?_
      refine V_nil (.inl rfl) ?_
      refine E_then ?_
      refine J_seq ?_
      refine J_seq ?_
      refine J_region ?_
      refine V_mov (.n _) rfl rfl ?_   -- 5.0
      refine V_lss (.n _) rfl rfl rfl ?_   -- 5.1
      refine V_mov (.n _) rfl rfl ?_   -- 5.2
      refine V_split 16 rfl (fun h2 => ?_) (fun h2 => ?_)   -- guard 5.2
      · skip
        refine V_pass (.n .p) (2, false) rfl rfl ?_   -- 5.3
        refine V_pass (.n .p) (2, false) rfl rfl ?_   -- 5.4
        refine V_pass (.n .p) (2, false) rfl rfl ?_   -- 5.5
        refine V_pass (.n .p) (2, false) rfl rfl ?_   -- 5.6
        refine V_pass (.n .p) (2, false) rfl rfl ?_   -- 5.7
        refine V_pickT (.n _) rfl rfl rfl ?_   -- 5.8
        refine V_mov (.n _) rfl rfl ?_   -- 5.9
        refine V_pass (.n .p) (9, false) rfl rfl ?_   -- 5.10
        refine V_pass (.n .p) (9, false) rfl rfl ?_   -- 5.11
        refine V_pass (.n .p) (9, false) rfl rfl ?_   -- 5.12
        refine V_pass (.n .p) (9, false) rfl rfl ?_   -- 5.13
        refine V_pass (.n .p) (9, false) rfl rfl ?_   -- 5.14
        refine V_pickT (.n _) rfl rfl rfl ?_   -- 5.15
        refine V_sub [(0, _), (1, _), (2, _), (5, _), (7, _), (8, _), (9, _), (10, _), (11, _), (29, _)] ⟨rfl, rfl, rfl, rfl, rfl, rfl, rfl, rfl, rfl, rfl, trivial⟩ ?_
        refine V_nil (.inl rfl) ?_
        refine E_then ?_
        refine J_condT rfl ?_
        refine J_seq ?_
        refine J_region ?_
        refine V_asg (.n _) rfl rfl ?_   -- 6.0
        refine V_sub [(0, _), (1, _), (2, _), (4, _), (5, _), (7, _), (8, _), (9, _), (10, _), (11, _), (29, _)] ⟨rfl, rfl, rfl, rfl, rfl, rfl, rfl, rfl, rfl, rfl, rfl, trivial⟩ ?_
        refine V_nil (.inl rfl) ?_
        refine E_then ?_
        refine J_ret ?_
        refine E_then_ret ?_
        refine E_blk_ret ?_
        refine E_then_ret ?_
        refine E_lp_ret ?_
        refine E_blk_ret ?_
        refine E_then_ret ?_
        -- return R0
        refine E_ret1 Tryd.results84 rfl (fun w hw => ?_)
        refine ⟨?_, hw.sub (fun x hx => by simp at hx) (by simp [keys])⟩
        first
          | rw [ordB_out (k := k) (by omega) (by omega)]
          | rw [ordB_fol (k := k) (by omega) (by rw [hje]; simpa using ‹(!fol _ _ _) = true›)]
          | (by_cases hol : os.length = st.length
             · rw [ordB_yes hol (by rw [show k = st.length by omega] at hok; exact hok) (fun i hi => hrg i (by omega)), decide_eq_true (by omega)]
             · rw [ordB_len hol, decide_eq_false (by omega)])
      · skip
        refine V_go (2, false) rfl ?_
        refine V_mov (.n _) rfl rfl ?_   -- 5.3
        refine V_go (2, false) rfl ?_
        first | refine V_fa0 (.n _) fo48_0 rfl rfl ?_ | refine V_faz (.n _) fo48_0 rfl rfl ?_ | refine V_fa (.n _) fo48_0 rfl rfl ?_   -- 5.4
        refine V_go (2, false) rfl ?_
        refine V_ld (.n _) Tryd.isAgg34 rfl (by repeat (first | exact List.Mem.head _ | assumption | apply List.Mem.tail)) (by rfl) rfl ?_   -- 5.5
        refine V_go (2, false) rfl ?_
        refine V_len (.n _) Tryd.underlying34 rfl rfl ?_   -- 5.6
        refine V_go (2, false) rfl ?_
        refine V_geq (.n _) rfl rfl rfl ?_   -- 5.7
        refine V_pickF (.n _) rfl rfl rfl ?_   -- 5.8
        refine V_mov (.n _) rfl rfl ?_   -- 5.9
        refine V_split 23 rfl (fun h3 => ?_) (fun h3 => ?_)   -- guard 5.9
        · skip
          refine V_pass (.n .p) (9, false) rfl rfl ?_   -- 5.10
          refine V_pass (.n .p) (9, false) rfl rfl ?_   -- 5.11
          refine V_pass (.n .p) (9, false) rfl rfl ?_   -- 5.12
          refine V_pass (.n .p) (9, false) rfl rfl ?_   -- 5.13
          refine V_pass (.n .p) (9, false) rfl rfl ?_   -- 5.14
          refine V_pickT (.n _) rfl rfl rfl ?_   -- 5.15
          refine V_sub [(0, _), (1, _), (2, _), (5, _), (7, _), (8, _), (9, _), (10, _), (11, _), (29, _)] ⟨rfl, rfl, rfl, rfl, rfl, rfl, rfl, rfl, rfl, rfl, trivial⟩ ?_
          refine V_nil (.inl rfl) ?_
          refine E_then ?_
          refine J_condT rfl ?_
          refine J_seq ?_
          refine J_region ?_
          refine V_asg (.n _) rfl rfl ?_   -- 6.0
          refine V_sub [(0, _), (1, _), (2, _), (4, _), (5, _), (7, _), (8, _), (9, _), (10, _), (11, _), (29, _)] ⟨rfl, rfl, rfl, rfl, rfl, rfl, rfl, rfl, rfl, rfl, rfl, trivial⟩ ?_
          refine V_nil (.inl rfl) ?_
          refine E_then ?_
          refine J_ret ?_
          refine E_then_ret ?_
          refine E_blk_ret ?_
          refine E_then_ret ?_
          refine E_lp_ret ?_
          refine E_blk_ret ?_
          refine E_then_ret ?_
          -- return R1
          refine E_ret1 Tryd.results84 rfl (fun w hw => ?_)
          refine ⟨?_, hw.sub (fun x hx => by simp at hx) (by simp [keys])⟩
          first
            | rw [ordB_out (k := k) (by omega) (by omega)]
            | rw [ordB_fol (k := k) (by omega) (by rw [hje]; simpa using ‹(!fol _ _ _) = true›)]
            | (by_cases hol : os.length = st.length
               · rw [ordB_yes hol (by rw [show k = st.length by omega] at hok; exact hok) (fun i hi => hrg i (by omega)), decide_eq_true (by omega)]
               · rw [ordB_len hol, decide_eq_false (by omega)])
        · skip
          refine V_go (9, false) rfl ?_
          refine V_ldN (.n _) Tryd.isAgg48 Tryd.sizeOf48 rfl (by repeat (first | exact List.Mem.head _ | assumption | apply List.Mem.tail)) (by rfl) rfl rfl ?_   -- 5.10
          refine V_go (9, false) rfl ?_
          refine V_mov (.n _) rfl rfl ?_   -- 5.11
          refine V_go (9, false) rfl ?_
          refine V_mov (.n _) rfl rfl ?_   -- 5.12
          refine V_go (9, false) rfl ?_
          have hj0 : 0 ≤ os.getD k 0 ∧ os.getD k 0 < st.length := by constructor <;> omega
          obtain ⟨j, hje⟩ : ∃ j : Nat, os.getD k 0 = (j : Int) := ⟨(os.getD k 0).toNat, by omega⟩
          have hel := endO_lt hok
          rw [hje]
          refine V_call0 (.n _) Tryd.call83 (.cons rfl (.cons rfl (.cons rfl .nil))) (fun w1 hw1 => rfollows_spec w1 A1 A2 A3 c1 c2 c3 vs st ch be hl1 hl2 hl3 (hp.keep hw1) (endO 0 ((ns os).take k)) j hv hel (by omega)) rfl trivial ?_   -- 5.13
          refine V_go (9, false) rfl ?_
          refine V_notB (.n _) rfl rfl ?_   -- 5.14
          refine V_pickF (.n _) rfl rfl rfl ?_   -- 5.15
          refine V_sub [(0, _), (1, _), (2, _), (5, _), (7, _), (8, _), (9, _), (10, _), (11, _), (29, _)] ⟨rfl, rfl, rfl, rfl, rfl, rfl, rfl, rfl, rfl, rfl, trivial⟩ ?_
          refine V_nil (.inl rfl) ?_
          refine E_then ?_
          refine J_condB rfl (fun h4 => ?_) (fun h4 => ?_)   -- C1
          · skip
            refine J_seq ?_
            refine J_region ?_
            refine V_asg (.n _) rfl rfl ?_   -- 6.0
            refine V_sub [(0, _), (1, _), (2, _), (4, _), (5, _), (7, _), (8, _), (9, _), (10, _), (11, _), (29, _)] ⟨rfl, rfl, rfl, rfl, rfl, rfl, rfl, rfl, rfl, rfl, rfl, trivial⟩ ?_
            refine V_nil (.inl rfl) ?_
            refine E_then ?_
            refine J_ret ?_
            refine E_then_ret ?_
            refine E_blk_ret ?_
            refine E_then_ret ?_
            refine E_lp_ret ?_
            refine E_blk_ret ?_
            refine E_then_ret ?_
            -- return R2
            refine E_ret1 Tryd.results84 rfl (fun w hw => ?_)
            refine ⟨?_, hw.sub (fun x hx => by simp at hx) (by simp [keys])⟩
            first
              | rw [ordB_out (k := k) (by omega) (by omega)]
              | rw [ordB_fol (k := k) (by omega) (by rw [hje]; simpa using ‹(!fol _ _ _) = true›)]
              | (by_cases hol : os.length = st.length
                 · rw [ordB_yes hol (by rw [show k = st.length by omega] at hok; exact hok) (fun i hi => hrg i (by omega)), decide_eq_true (by omega)]
                 · rw [ordB_len hol, decide_eq_false (by omega)])
          · have hfol : fol (natB be) (endO 0 ((ns os).take k)) j = true := by simpa using h4
            obtain ⟨hok2, hen2⟩ := okO_next (n := st.length) (by omega) hje (by omega) hok hfol
            refine J_skip ?_
            refine E_then ?_
            refine J_region ?_
            refine V_mov (.n _) rfl rfl ?_   -- 7.0
            refine V_mov (.n _) rfl rfl ?_   -- 7.1
            refine V_shl (.n _) rfl rfl (by omega) (by simp [IntKind.bits]; omega) (by rw [shl_nat]; exact wrap_nat (lt63 (Nat.pow_lt_pow_right (by decide) (show j < 10 by omega)) (Nat.le_refl _))) rfl ?_   -- 7.2
            rw [shl_nat]
            refine V_or (r := ((endO 0 ((ns os).take k) ||| 2 ^ j : Nat) : Int)) (.n _) rfl rfl (bits_or (by omega) (lt63 (Nat.pow_lt_pow_right (by decide) (show j < 10 by omega)) (Nat.le_refl _))) rfl ?_   -- 7.3
            refine V_asg (.n _) rfl rfl ?_   -- 7.4
            refine V_sub [(0, _), (1, _), (2, _), (5, _), (7, _), (8, _), (9, _), (10, _), (11, _), (29, _)] ⟨rfl, rfl, rfl, rfl, rfl, rfl, rfl, rfl, rfl, rfl, trivial⟩ ?_
            refine V_nil (.inl rfl) ?_
            refine E_blk ?_
            refine E_then ?_
            refine J_region ?_
            refine V_add (.n _) rfl rfl (wrap_ok (by omega)) rfl ?_   -- 8.0
            refine V_mov (.n _) rfl rfl ?_   -- 8.1
            refine V_sub [(0, _), (1, _), (2, _), (5, _), (7, _), (8, _), (9, _), (10, _), (11, _), (29, _)] ⟨rfl, rfl, rfl, rfl, rfl, rfl, rfl, rfl, rfl, rfl, trivial⟩ ?_
            refine V_nil (.inl rfl) ?_
            -- again L0 0
            refine E_again (k + 1) ?_ ?_ ?_ (fun w h => h)
            · omega
            · exact ⟨by omega, hok2, fun i hi => by by_cases e : i = k; (subst e; exact hj0); exact hrg i (by omega)⟩
            · refine ⟨?_, ?_, ?_, ?_, ?_, ?_, ?_, trivial⟩ <;> first | rfl | exact int_eq (by omega) | exact int_eq (by rw [hen2])
    · skip
      refine J_exit ?_
      refine E_then_exit ?_
      refine E_lp_exit ?_
      refine E_blk_hit ?_
      refine E_then ?_
      refine J_seq ?_
      refine J_region ?_
      refine V_mov (.n _) rfl rfl ?_   -- 9.0
      refine V_len (.n _) Tryd.underlying34 rfl rfl ?_   -- 9.1
      first | refine V_fa0 (.n _) fo48_0 rfl rfl ?_ | refine V_faz (.n _) fo48_0 rfl rfl ?_ | refine V_fa (.n _) fo48_0 rfl rfl ?_   -- 9.2
      refine V_ld (.n _) Tryd.isAgg34 rfl (by repeat (first | exact List.Mem.head _ | assumption | apply List.Mem.tail)) (by rfl) rfl ?_   -- 9.3
      refine V_len (.n _) Tryd.underlying34 rfl rfl ?_   -- 9.4
      refine V_eql (.n _) rfl rfl rfl ?_   -- 9.5
      refine V_asg (.n _) rfl rfl ?_   -- 9.6
      refine V_sub [(0, _), (1, _), (2, _), (4, _), (5, _), (8, _), (9, _), (10, _), (11, _)] ⟨rfl, rfl, rfl, rfl, rfl, rfl, rfl, rfl, rfl, trivial⟩ ?_
      refine V_nil (.inl rfl) ?_
      refine E_then ?_
      refine J_ret ?_
      -- return R3
      refine E_ret1 Tryd.results84 rfl (fun w hw => ?_)
      refine ⟨?_, hw.sub (fun x hx => by simp at hx) (by simp [keys])⟩
      first
        | rw [ordB_out (k := k) (by omega) (by omega)]
        | rw [ordB_fol (k := k) (by omega) (by rw [hje]; simpa using ‹(!fol _ _ _) = true›)]
        | (by_cases hol : os.length = st.length
           · rw [ordB_yes hol (by rw [show k = st.length by omega] at hok; exact hok) (fun i hi => hrg i (by omega)), decide_eq_true (by omega)]
           · rw [ordB_len hol, decide_eq_false (by omega)])


theorem ordB_parts {n : Nat} {B : Pairs} {os : List Int} (h : ordB n B os = true) : os.length = n ∧ (∀ i, i < os.length → 0 ≤ os.getD i 0 ∧ os.getD i 0 < n) ∧ okO n B 0 (ns os) = true := by
  unfold ordB at h
  simp only [Bool.and_eq_true, decide_eq_true_eq] at h
  refine ⟨h.1.1, fun i hi => ?_, h.2⟩
  have := List.all_eq_true.1 h.1.2 _ (getD_mem (d := 0) hi)
  simpa using this

theorem RefCost_no (w : World) (A1 A2 A3 : Option Addr) (c1 c2 c3 : Nat) (vs : List Value) (st : List Int) (ch : Rows2) (be : List (Int × Int)) (hl1 : st.length ≤ 140737488351232) (hl2 : ch.length ≤ 140737488351232) (hl3 : be.length ≤ 140737488351232) (hp : PR w A1 A2 A3 vs st ch be) (hlr : ∀ r ∈ ch, r.length ≤ 140737488351232) (hv : validP st ch be = false) (AO : Option Addr) (cO : Nat) (os : List Int) (hlo : os.length ≤ 140737488351232) (ho : Rd w AO (I os))  : Calls Tryd.prog 40 #[.agg #[.slice A1 st.length c1, .slice A2 ch.length c2, .slice A3 be.length c3], .slice AO os.length cO] w fun e w' => e = .returned (.tuple #[.int .i64 (costR st ch be os).1, .int .i64 (costR st ch be os).2]) ∧ St w [] w' := by
  refine calls (args := [.agg #[.slice A1 st.length c1, .slice A2 ch.length c2, .slice A3 be.length c3], .slice AO os.length cO]) Tryd.func40 rfl Tryd.ntmps40 (Nat.le_of_ble_eq_true rfl) (St.refl w) ?_
  refine J_seq ?_
  refine J_region ?_
  refine V_box (.n _) rfl rfl rfl (fun _ => trivial) (fun b2 => ?_)   -- 0.0
  refine V_asg (.n _) rfl rfl ?_   -- 0.1
  refine V_asg (.n _) rfl rfl ?_   -- 0.2
  refine V_sub [(0, _), (1, _), (2, _), (4, _), (5, _)] ⟨rfl, rfl, rfl, rfl, rfl, trivial⟩ ?_
  refine V_nil (.inl rfl) ?_
  refine E_then ?_
  refine J_seq ?_
  refine J_seq ?_
  refine J_region ?_
  refine V_ldN (.n _) Tryd.isAgg48 Tryd.sizeOf48 rfl (by repeat (first | exact List.Mem.head _ | assumption | apply List.Mem.tail)) (by rfl) rfl rfl ?_   -- 1.0
  refine V_call0 (.n _) Tryd.call34 (.cons rfl .nil) (fun w1 hw1 => rvalid_spec w1 A1 A2 A3 c1 c2 c3 vs st ch be hl1 hl2 hl3 (hp.keep hw1) hlr) rfl trivial ?_   -- 1.1
  refine V_notB (.n _) rfl rfl ?_   -- 1.2
  refine V_sub [(0, _), (1, _), (2, _), (4, _), (5, _), (10, _)] ⟨rfl, rfl, rfl, rfl, rfl, rfl, trivial⟩ ?_
  refine V_nil (.inl rfl) ?_
  refine E_then ?_
  refine J_condB rfl (fun h1 => ?_) (fun h1 => ?_)   -- C0
  · skip
    refine J_seq ?_
    refine J_region ?_
    refine V_asg (.n _) rfl rfl ?_   -- 2.0
    refine V_asg (.n _) rfl rfl ?_   -- 2.1
    refine V_sub [(0, _), (1, _), (2, _), (4, _), (5, _), (10, _)] ⟨rfl, rfl, rfl, rfl, rfl, rfl, trivial⟩ ?_
    refine V_nil (.inl rfl) ?_
    refine E_then ?_
    refine J_ret ?_
    refine E_then_ret ?_
    -- return R0
    refine E_ret2 Tryd.results40 rfl rfl (fun w hw => ?_)
    exact ⟨by rw [costR, if_pos hv], hw.sub (fun x hx => by simp at hx) (by simp [keys])⟩
  · simp [hv] at h1

theorem RefCost_yes (w : World) (A1 A2 A3 : Option Addr) (c1 c2 c3 : Nat) (vs : List Value) (st : List Int) (ch : Rows2) (be : List (Int × Int)) (hl1 : st.length ≤ 140737488351232) (hl2 : ch.length ≤ 140737488351232) (hl3 : be.length ≤ 140737488351232) (hp : PR w A1 A2 A3 vs st ch be) (hlr : ∀ r ∈ ch, r.length ≤ 140737488351232) (hv : VP st ch be) (AO : Option Addr) (cO : Nat) (os : List Int) (hlo : os.length ≤ 140737488351232) (ho : Rd w AO (I os))  : Calls Tryd.prog 40 #[.agg #[.slice A1 st.length c1, .slice A2 ch.length c2, .slice A3 be.length c3], .slice AO os.length cO] w fun e w' => e = .returned (.tuple #[.int .i64 (costR st ch be os).1, .int .i64 (costR st ch be os).2]) ∧ St w [] w' := by
  have hn10 := hv.n10
  have hn01 := hv.n1
  have hp1 := pow1024 hn10
  have hN := n2n hn10
  have hp0 := Nat.pow_pos (n := st.length) (show 0 < 2 by decide)
  have hchl := hv.chl
  have hfar : far2 = 1099511627776 := rfl
  refine calls (args := [.agg #[.slice A1 st.length c1, .slice A2 ch.length c2, .slice A3 be.length c3], .slice AO os.length cO]) Tryd.func40 rfl Tryd.ntmps40 (Nat.le_of_ble_eq_true rfl) (St.refl w) ?_
  refine J_seq ?_
  refine J_region ?_
  refine V_box (.n _) rfl rfl rfl (fun _ => trivial) (fun b2 => ?_)   -- 0.0
  refine V_asg (.n _) rfl rfl ?_   -- 0.1
  refine V_asg (.n _) rfl rfl ?_   -- 0.2
  refine V_sub [(0, _), (1, _), (2, _), (4, _), (5, _)] ⟨rfl, rfl, rfl, rfl, rfl, trivial⟩ ?_
  refine V_nil (.inl rfl) ?_
  refine E_then ?_
  refine J_seq ?_
  refine J_seq ?_
  refine J_region ?_
  refine V_ldN (.n _) Tryd.isAgg48 Tryd.sizeOf48 rfl (by repeat (first | exact List.Mem.head _ | assumption | apply List.Mem.tail)) (by rfl) rfl rfl ?_   -- 1.0
  refine V_call0 (.n _) Tryd.call34 (.cons rfl .nil) (fun w1 hw1 => rvalid_spec w1 A1 A2 A3 c1 c2 c3 vs st ch be hl1 hl2 hl3 (hp.keep hw1) hlr) rfl trivial ?_   -- 1.1
  refine V_notB (.n _) rfl rfl ?_   -- 1.2
  refine V_sub [(0, _), (1, _), (2, _), (4, _), (5, _), (10, _)] ⟨rfl, rfl, rfl, rfl, rfl, rfl, trivial⟩ ?_
  refine V_nil (.inl rfl) ?_
  refine E_then ?_
  refine J_condB rfl (fun h1 => ?_) (fun h1 => ?_)   -- C0
  · simp [validP_iff.2 hv] at h1
  · skip
    refine J_skip ?_
    refine E_then ?_
    refine J_seq ?_
    refine J_seq ?_
    refine J_region ?_
    refine V_ldN (.n _) Tryd.isAgg48 Tryd.sizeOf48 rfl (by repeat (first | exact List.Mem.head _ | assumption | apply List.Mem.tail)) (by rfl) rfl rfl ?_   -- 3.0
    refine V_mov (.n _) rfl rfl ?_   -- 3.1
    refine V_call0 (.n _) Tryd.call84 (.cons rfl (.cons rfl .nil)) (fun w1 hw1 => order_spec w1 A1 A2 A3 c1 c2 c3 vs st ch be hl1 hl2 hl3 (hp.keep hw1) hv AO cO os hlo (ho.keep hw1)) rfl trivial ?_   -- 3.2
    refine V_notB (.n _) rfl rfl ?_   -- 3.3
    refine V_sub [(0, _), (1, _), (2, _), (4, _), (5, _), (10, _), (14, _)] ⟨rfl, rfl, rfl, rfl, rfl, rfl, rfl, trivial⟩ ?_
    refine V_nil (.inl rfl) ?_
    refine E_then ?_
    refine J_condB rfl (fun h2 => ?_) (fun h2 => ?_)   -- C1
    · skip
      refine J_seq ?_
      refine J_region ?_
      refine V_asg (.n _) rfl rfl ?_   -- 4.0
      refine V_asg (.n _) rfl rfl ?_   -- 4.1
      refine V_sub [(0, _), (1, _), (2, _), (4, _), (5, _), (10, _), (14, _)] ⟨rfl, rfl, rfl, rfl, rfl, rfl, rfl, trivial⟩ ?_
      refine V_nil (.inl rfl) ?_
      refine E_then ?_
      refine J_ret ?_
      refine E_then_ret ?_
      -- return R0
      refine E_ret2 Tryd.results40 rfl rfl (fun w hw => ?_)
      exact ⟨by rw [costR, if_neg (by rw [validP_iff.2 hv]; simp), if_neg (by simp_all)], hw.sub (fun x hx => by simp at hx) (by simp [keys])⟩
    · have hob : ordB st.length (natB be) os = true := by simpa using h2
      obtain ⟨hol, hrg, hok⟩ := ordB_parts hob
      obtain ⟨j0, hje0⟩ : ∃ j : Nat, os.getD 0 0 = (j : Int) := ⟨(os.getD 0 0).toNat, by have := hrg 0 (by omega); omega⟩
      have hj00 := hrg 0 (by omega)
      have hs0 := sumO_first (st := st) (ch := ch) (by omega) hje0
      refine J_skip ?_
      refine E_then ?_
      refine J_seq ?_
      refine J_draw (Gs := _) (cl := [.p, .r, .p, .p, .r, .p, .r, .p]) (by kernel_rfl) (fun _ _ h => h) ?_
      first | refine V_fa0 (.s _ _ _) fo48_0 rfl rfl ?_ | refine V_faz (.s _ _ _) fo48_0 rfl rfl ?_ | refine V_fa (.s _ _ _) fo48_0 rfl rfl ?_   -- 5.0
      refine V_ld (.s _ _ _) Tryd.isAgg34 rfl (by repeat (first | exact List.Mem.head _ | assumption | apply List.Mem.tail)) (by rfl) rfl ?_   -- 5.1
      refine V_mov (.s _ _ _) rfl rfl ?_   -- 5.2
      first | refine V_ix (.s _ _ _) Tryd.underlying34 Tryd.sizeOf3 rfl rfl (by omega) (by omega) rfl ?_ | refine V_ixz (.s _ _ _) Tryd.underlying34 Tryd.sizeOf3 rfl rfl (hp.h2.rd.pl (by rw [hp.h2.len]; omega)) (by omega) (by omega) rfl ?_ | refine V_ixz (.s _ _ _) Tryd.underlying34 Tryd.sizeOf3 rfl rfl (hrr.pl (by simp)) (by omega) (by omega) rfl ?_ | refine V_ixz (.s _ _ _) Tryd.underlying34 Tryd.sizeOf3 rfl rfl (hp.h1.pl (by simp)) (by omega) (by omega) rfl ?_ | refine V_ixz (.s _ _ _) Tryd.underlying34 Tryd.sizeOf3 rfl rfl (ho.pl (by simp)) (by omega) (by omega) rfl ?_   -- 5.3
      refine V_ldz (.s _ _ _) Tryd.isAgg3 rfl ho (I_getN (i := 0) (by omega)) rfl ?_   -- 5.4
      rw [hje0]
      first | refine V_ix (.s _ _ _) Tryd.underlying34 Tryd.sizeOf3 rfl rfl (by omega) (by omega) rfl ?_ | refine V_ixz (.s _ _ _) Tryd.underlying34 Tryd.sizeOf3 rfl rfl (hp.h2.rd.pl (by rw [hp.h2.len]; omega)) (by omega) (by omega) rfl ?_ | refine V_ixz (.s _ _ _) Tryd.underlying34 Tryd.sizeOf3 rfl rfl (hrr.pl (by simp)) (by omega) (by omega) rfl ?_ | refine V_ixz (.s _ _ _) Tryd.underlying34 Tryd.sizeOf3 rfl rfl (hp.h1.pl (by simp)) (by omega) (by omega) rfl ?_ | refine V_ixz (.s _ _ _) Tryd.underlying34 Tryd.sizeOf3 rfl rfl (ho.pl (by simp)) (by omega) (by omega) rfl ?_   -- 5.5
      refine V_ldz (.s _ _ _) Tryd.isAgg3 rfl hp.h1 (I_getN (i := j0) (by omega)) rfl ?_   -- 5.6
      refine V_asg (.s _ _ _) rfl rfl ?_   -- 5.7
      refine V_sub [(0, _), (1, _), (2, _), (4, _), (5, _), (6, _), (10, _), (14, _)] ⟨rfl, rfl, rfl, rfl, rfl, rfl, rfl, rfl, trivial⟩ ?_
      refine V_nil (.inr ⟨_, rfl⟩) ?_
      refine E_then ?_
      refine J_seq ?_
      refine J_seq ?_
      refine J_region ?_
      refine V_asg (.n _) rfl rfl ?_   -- 6.0
      refine V_sub [(0, _), (1, _), (2, _), (4, _), (5, _), (6, _), (7, _), (10, _), (14, _)] ⟨rfl, rfl, rfl, rfl, rfl, rfl, rfl, rfl, rfl, trivial⟩ ?_
      refine V_nil (.inl rfl) ?_
      refine E_then ?_
      refine J_block ?_
      -- loop L0
      refine J_loop (X := Nat) (fun k => [(0, (.agg #[.slice A1 st.length c1, .slice A2 ch.length c2, .slice A3 be.length c3])), (1, (.slice AO os.length cO)), (2, (.pointer (some ⟨b2, 0, none⟩))), (4, (.int .i64 (0))), (5, (.int .i64 (0))), (6, .int .i64 (sumO st ch none ((ns os).take (k + 1)))), (7, .int .i64 ((k + 1 : Nat) : Int))]) (fun k => [.c b2 48 [.slice A1 st.length c1, .slice A2 ch.length c2, .slice A3 be.length c3]]) (fun k => k < os.length) (fun k => os.length - k) (0) (by refine ⟨?_, ?_, ?_, ?_, ?_, ?_, ?_, trivial⟩ <;> first | rfl | exact int_eq (by omega) | exact int_eq hs0.symm) (fun w h => h) ?_ ?_
      · omega
      · intro k hk
        refine J_seq ?_
        refine J_seq ?_
        refine J_region ?_
        refine V_mov (.n _) rfl rfl ?_   -- 7.0
        refine V_mov (.n _) rfl rfl ?_   -- 7.1
        refine V_len (.n _) Tryd.underlying34 rfl rfl ?_   -- 7.2
        refine V_lss (.n _) rfl rfl rfl ?_   -- 7.3
        refine V_sub [(0, _), (1, _), (2, _), (4, _), (5, _), (6, _), (7, _), (25, _)] ⟨rfl, rfl, rfl, rfl, rfl, rfl, rfl, rfl, trivial⟩ ?_
        refine V_nil (.inl rfl) ?_
        refine E_then ?_
        refine J_cond rfl (fun h3 => ?_) (fun h3 => ?_)   -- C2
        · skip
          refine J_skip ?_
          refine E_then ?_
          refine J_seq ?_
          refine J_block ?_
          refine J_draw (Gs := _) (cl := [.p, .p, .r, .p, .p, .p, .p, .r, .p, .r, .p, .p, .p, .r, .p, .r, .p, .p]) (by kernel_rfl) (fun _ _ h => h) ?_
          refine V_mov (.s _ _ _) rfl rfl ?_   -- 9.0
          first | refine V_fa0 (.s _ _ _) fo48_1 rfl rfl ?_ | refine V_faz (.s _ _ _) fo48_1 rfl rfl ?_ | refine V_fa (.s _ _ _) fo48_1 rfl rfl ?_   -- 9.1
          refine V_ld (.s _ _ _) Tryd.isAgg45 rfl (by repeat (first | exact List.Mem.head _ | assumption | apply List.Mem.tail)) (by rfl) rfl ?_   -- 9.2
          refine V_mov (.s _ _ _) rfl rfl ?_   -- 9.3
          refine V_mov (.s _ _ _) rfl rfl ?_   -- 9.4
          obtain ⟨i, hie⟩ : ∃ i : Nat, os.getD k 0 = (i : Int) := ⟨(os.getD k 0).toNat, by have := hrg k (by omega); omega⟩
          have hi := hrg k (by omega)
          obtain ⟨j, hje⟩ : ∃ j : Nat, os.getD (k + 1) 0 = (j : Int) := ⟨(os.getD (k + 1) 0).toNat, by have := hrg (k + 1) (by omega); omega⟩
          have hj := hrg (k + 1) (by omega)
          refine V_sub1 (.s _ _ _) rfl rfl (wrap_ok (by omega)) rfl ?_   -- 9.5
          rw [show (((k + 1 : Nat) : Int) - 1) = (k : Int) by omega]
          first | refine V_ix (.s _ _ _) Tryd.underlying34 Tryd.sizeOf3 rfl rfl (by omega) (by omega) rfl ?_ | refine V_ixz (.s _ _ _) Tryd.underlying34 Tryd.sizeOf3 rfl rfl (hp.h2.rd.pl (by rw [hp.h2.len]; omega)) (by omega) (by omega) rfl ?_ | refine V_ixz (.s _ _ _) Tryd.underlying34 Tryd.sizeOf3 rfl rfl (hrr.pl (by simp)) (by omega) (by omega) rfl ?_ | refine V_ixz (.s _ _ _) Tryd.underlying34 Tryd.sizeOf3 rfl rfl (hp.h1.pl (by simp)) (by omega) (by omega) rfl ?_ | refine V_ixz (.s _ _ _) Tryd.underlying34 Tryd.sizeOf3 rfl rfl (ho.pl (by simp)) (by omega) (by omega) rfl ?_   -- 9.6
          refine V_ldz (.s _ _ _) Tryd.isAgg3 rfl ho (I_getN (i := k) (by omega)) rfl ?_   -- 9.7
          rw [hie]
          first | refine V_ix (.s _ _ _) Tryd.underlying45 Tryd.sizeOf34 rfl rfl (by omega) (by omega) rfl ?_ | refine V_ixz (.s _ _ _) Tryd.underlying45 Tryd.sizeOf34 rfl rfl (hp.h2.rd.pl (by rw [hp.h2.len]; omega)) (by omega) (by omega) rfl ?_ | refine V_ixz (.s _ _ _) Tryd.underlying45 Tryd.sizeOf34 rfl rfl (hrr.pl (by simp)) (by omega) (by omega) rfl ?_ | refine V_ixz (.s _ _ _) Tryd.underlying45 Tryd.sizeOf34 rfl rfl (hp.h1.pl (by simp)) (by omega) (by omega) rfl ?_ | refine V_ixz (.s _ _ _) Tryd.underlying45 Tryd.sizeOf34 rfl rfl (ho.pl (by simp)) (by omega) (by omega) rfl ?_   -- 9.8
          obtain ⟨Ai, ci, hrow, hrr⟩ := hp.h2.get (i := i) (by omega)
          have hrl := (hv.row (i := i) (by omega)).1
          refine V_ldz (.s _ _ _) Tryd.isAgg34 rfl hp.h2.rd hrow rfl ?_   -- 9.9
          refine V_mov (.s _ _ _) rfl rfl ?_   -- 9.10
          refine V_mov (.s _ _ _) rfl rfl ?_   -- 9.11
          first | refine V_ix (.s _ _ _) Tryd.underlying34 Tryd.sizeOf3 rfl rfl (by omega) (by omega) rfl ?_ | refine V_ixz (.s _ _ _) Tryd.underlying34 Tryd.sizeOf3 rfl rfl (hp.h2.rd.pl (by rw [hp.h2.len]; omega)) (by omega) (by omega) rfl ?_ | refine V_ixz (.s _ _ _) Tryd.underlying34 Tryd.sizeOf3 rfl rfl (hrr.pl (by simp)) (by omega) (by omega) rfl ?_ | refine V_ixz (.s _ _ _) Tryd.underlying34 Tryd.sizeOf3 rfl rfl (hp.h1.pl (by simp)) (by omega) (by omega) rfl ?_ | refine V_ixz (.s _ _ _) Tryd.underlying34 Tryd.sizeOf3 rfl rfl (ho.pl (by simp)) (by omega) (by omega) rfl ?_   -- 9.12
          refine V_ldz (.s _ _ _) Tryd.isAgg3 rfl ho (I_getN (i := k + 1) (by omega)) rfl ?_   -- 9.13
          rw [hje]
          first | refine V_ix (.s _ _ _) Tryd.underlying34 Tryd.sizeOf3 rfl rfl (by omega) (by omega) rfl ?_ | refine V_ixz (.s _ _ _) Tryd.underlying34 Tryd.sizeOf3 rfl rfl (hp.h2.rd.pl (by rw [hp.h2.len]; omega)) (by omega) (by omega) rfl ?_ | refine V_ixz (.s _ _ _) Tryd.underlying34 Tryd.sizeOf3 rfl rfl (hrr.pl (by simp)) (by omega) (by omega) rfl ?_ | refine V_ixz (.s _ _ _) Tryd.underlying34 Tryd.sizeOf3 rfl rfl (hp.h1.pl (by simp)) (by omega) (by omega) rfl ?_ | refine V_ixz (.s _ _ _) Tryd.underlying34 Tryd.sizeOf3 rfl rfl (ho.pl (by simp)) (by omega) (by omega) rfl ?_   -- 9.14
          refine V_ldz (.s _ _ _) Tryd.isAgg3 rfl hrr (I_getN (i := j) (by omega)) rfl ?_   -- 9.15
          rw [show (ch.getD i []).getD j 0 = cst ch i j from rfl]
          have hcb := hv.ok.change i j (by omega) (by omega)
          have hsb := sumO_bd hv.ok ((ns os).take (k + 1)) none (fun i hi => by cases hi) (fun x hx => okO_lt _ _ hok x (List.mem_of_mem_take hx))
          have htl : ((ns os).take (k + 1)).length = k + 1 := by simp; omega
          rw [htl] at hsb
          have hsn := sumO_next (st := st) (ch := ch) (k := k) (by omega) hie hje
          refine V_add (.s _ _ _) rfl rfl (wrap_ok (by omega)) rfl ?_   -- 9.16
          refine V_asg (.s _ _ _) rfl rfl ?_   -- 9.17
          refine V_sub [(0, _), (1, _), (2, _), (4, _), (5, _), (6, _), (7, _), (25, _)] ⟨rfl, rfl, rfl, rfl, rfl, rfl, rfl, rfl, trivial⟩ ?_
          refine V_nil (.inr ⟨_, rfl⟩) ?_
          refine E_blk ?_
          refine E_then ?_
          refine J_region ?_
          refine V_mov (.n _) rfl rfl ?_   -- 8.0
          refine V_add (.n _) rfl rfl (wrap_ok (by omega)) rfl ?_   -- 8.1
          refine V_asg (.n _) rfl rfl ?_   -- 8.2
          refine V_sub [(0, _), (1, _), (2, _), (4, _), (5, _), (6, _), (7, _), (25, _)] ⟨rfl, rfl, rfl, rfl, rfl, rfl, rfl, rfl, trivial⟩ ?_
          refine V_nil (.inl rfl) ?_
          -- again L0 0
          refine E_again (k + 1) ?_ ?_ ?_ (fun w h => h)
          · omega
          · omega
          · refine ⟨?_, ?_, ?_, ?_, ?_, ?_, ?_, trivial⟩ <;> first | rfl | exact int_eq hsn.symm | exact int_eq (by omega)
        · skip
          refine J_exit ?_
          refine E_then_exit ?_
          refine E_lp_exit ?_
          refine E_blk_hit ?_
          refine E_then ?_
          refine J_seq ?_
          refine J_region ?_
          refine V_mov (.n _) rfl rfl ?_   -- 10.0
          refine V_asg (.n _) rfl rfl ?_   -- 10.1
          refine V_asg (.n _) rfl rfl ?_   -- 10.2
          refine V_sub [(0, _), (1, _), (2, _), (4, _), (5, _), (6, _), (7, _), (25, _)] ⟨rfl, rfl, rfl, rfl, rfl, rfl, rfl, rfl, trivial⟩ ?_
          refine V_nil (.inl rfl) ?_
          refine E_then ?_
          refine J_ret ?_
          -- return R1
          refine E_ret2 Tryd.results40 rfl rfl (fun w hw => ?_)
          exact ⟨by rw [costR, if_neg (by rw [validP_iff.2 hv]; simp), if_pos hob, List.take_of_length_le (by rw [ns_length]; omega)], hw.sub (fun x hx => by simp at hx) (by simp [keys])⟩

theorem isNaN_spec (w : World) (x : Int) : Calls Tryd.prog 111 #[.int .i64 x] w fun e w' => e = .returned (.bool false) ∧ St w [] w' := by
  refine calls (args := [.int .i64 x]) Tryd.func111 rfl Tryd.ntmps111 (Nat.le_of_ble_eq_true rfl) (St.refl w) ?_
  refine J_seq ?_
  refine J_region ?_
  refine V_asg (.n _) rfl rfl ?_   -- 0.0
  refine V_sub [(0, _), (2, _)] ⟨rfl, rfl, trivial⟩ ?_
  refine V_nil (.inl rfl) ?_
  refine E_then ?_
  refine J_seq ?_
  refine J_region ?_
  refine V_mov (.n _) rfl rfl ?_   -- 1.0
  refine V_mov (.n _) rfl rfl ?_   -- 1.1
  refine V_neq (.n _) rfl rfl rfl ?_   -- 1.2
  refine V_asg (.n _) rfl rfl ?_   -- 1.3
  refine V_sub [(0, _), (2, _)] ⟨rfl, rfl, trivial⟩ ?_
  refine V_nil (.inl rfl) ?_
  refine E_then ?_
  refine J_ret ?_
  -- return R0
  refine E_ret1 Tryd.results111 rfl (fun w hw => ?_)
  exact ⟨by simp, hw⟩

theorem cmp1_spec (w : World) (x y : Int) : Calls Tryd.prog 85 #[.int .i64 x, .int .i64 y] w fun e w' => e = .returned (.int .i64 (cmp1 x y)) ∧ St w [] w' := by
  refine calls (args := [.int .i64 x, .int .i64 y]) Tryd.func85 rfl Tryd.ntmps85 (Nat.le_of_ble_eq_true rfl) (St.refl w) ?_
  refine J_seq ?_
  refine J_region ?_
  refine V_asg (.n _) rfl rfl ?_   -- 0.0
  refine V_sub [(0, _), (1, _), (4, _)] ⟨rfl, rfl, rfl, trivial⟩ ?_
  refine V_nil (.inl rfl) ?_
  refine E_then ?_
  refine J_seq ?_
  refine J_region ?_
  refine V_mov (.n _) rfl rfl ?_   -- 1.0
  refine V_call0 (.n _) Tryd.call111 (.cons rfl .nil) (fun w1 hw1 => isNaN_spec w1 x) rfl trivial ?_   -- 1.1
  refine V_asg (.n _) rfl rfl ?_   -- 1.2
  refine V_sub [(0, _), (1, _), (4, _), (5, _)] ⟨rfl, rfl, rfl, rfl, trivial⟩ ?_
  refine V_nil (.inl rfl) ?_
  refine E_then ?_
  refine J_seq ?_
  refine J_region ?_
  refine V_mov (.n _) rfl rfl ?_   -- 2.0
  refine V_call0 (.n _) Tryd.call111 (.cons rfl .nil) (fun w1 hw1 => isNaN_spec w1 y) rfl trivial ?_   -- 2.1
  refine V_asg (.n _) rfl rfl ?_   -- 2.2
  refine V_sub [(0, _), (1, _), (4, _), (5, _), (6, _)] ⟨rfl, rfl, rfl, rfl, rfl, trivial⟩ ?_
  refine V_nil (.inl rfl) ?_
  refine E_then ?_
  refine J_seq ?_
  refine J_seq ?_
  refine J_region ?_
  refine V_mov (.n _) rfl rfl ?_   -- 3.0
  refine V_sub [(0, _), (1, _), (4, _), (5, _), (6, _), (11, _)] ⟨rfl, rfl, rfl, rfl, rfl, rfl, trivial⟩ ?_
  refine V_nil (.inl rfl) ?_
  refine E_then ?_
  refine J_condF rfl ?_
  refine J_skip ?_
  refine E_then ?_
  refine J_seq ?_
  refine J_seq ?_
  refine J_region ?_
  refine V_mov (.n _) rfl rfl ?_   -- 7.0
  refine V_sub [(0, _), (1, _), (4, _), (5, _), (6, _), (11, _), (13, _)] ⟨rfl, rfl, rfl, rfl, rfl, rfl, rfl, trivial⟩ ?_
  refine V_nil (.inl rfl) ?_
  refine E_then ?_
  refine J_condF rfl ?_
  refine J_skip ?_
  refine E_then ?_
  refine J_seq ?_
  refine J_seq ?_
  refine J_region ?_
  refine V_mov (.n _) rfl rfl ?_   -- 9.0
  refine V_mov (.n _) rfl rfl ?_   -- 9.1
  refine V_lss (.n _) rfl rfl rfl ?_   -- 9.2
  refine V_sub [(0, _), (1, _), (4, _), (5, _), (6, _), (11, _), (13, _), (16, _)] ⟨rfl, rfl, rfl, rfl, rfl, rfl, rfl, rfl, trivial⟩ ?_
  refine V_nil (.inl rfl) ?_
  refine E_then ?_
  refine J_cond rfl (fun h1 => ?_) (fun h1 => ?_)   -- C3
  · skip
    refine J_seq ?_
    refine J_region ?_
    refine V_asg (.n _) rfl rfl ?_   -- 10.0
    refine V_sub [(0, _), (1, _), (4, _), (5, _), (6, _), (11, _), (13, _), (16, _)] ⟨rfl, rfl, rfl, rfl, rfl, rfl, rfl, rfl, trivial⟩ ?_
    refine V_nil (.inl rfl) ?_
    refine E_then ?_
    refine J_ret ?_
    refine E_then_ret ?_
    -- return R0
    refine E_ret1 Tryd.results85 rfl (fun w hw => ?_)
    exact ⟨by rw [cmp1, if_pos (by omega)], hw⟩
  · skip
    refine J_skip ?_
    refine E_then ?_
    refine J_seq ?_
    refine J_seq ?_
    refine J_region ?_
    refine V_mov (.n _) rfl rfl ?_   -- 11.0
    refine V_mov (.n _) rfl rfl ?_   -- 11.1
    refine V_gtr (.n _) rfl rfl rfl ?_   -- 11.2
    refine V_sub [(0, _), (1, _), (4, _), (5, _), (6, _), (11, _), (13, _), (16, _), (19, _)] ⟨rfl, rfl, rfl, rfl, rfl, rfl, rfl, rfl, rfl, trivial⟩ ?_
    refine V_nil (.inl rfl) ?_
    refine E_then ?_
    refine J_cond rfl (fun h2 => ?_) (fun h2 => ?_)   -- C4
    · skip
      refine J_seq ?_
      refine J_region ?_
      refine V_asg (.n _) rfl rfl ?_   -- 12.0
      refine V_sub [(0, _), (1, _), (4, _), (5, _), (6, _), (11, _), (13, _), (16, _), (19, _)] ⟨rfl, rfl, rfl, rfl, rfl, rfl, rfl, rfl, rfl, trivial⟩ ?_
      refine V_nil (.inl rfl) ?_
      refine E_then ?_
      refine J_ret ?_
      refine E_then_ret ?_
      -- return R1
      refine E_ret1 Tryd.results85 rfl (fun w hw => ?_)
      exact ⟨by rw [cmp1, if_neg (by omega), if_pos (by omega)], hw⟩
    · skip
      refine J_skip ?_
      refine E_then ?_
      refine J_seq ?_
      refine J_region ?_
      refine V_asg (.n _) rfl rfl ?_   -- 13.0
      refine V_sub [(0, _), (1, _), (4, _), (5, _), (6, _), (11, _), (13, _), (16, _), (19, _)] ⟨rfl, rfl, rfl, rfl, rfl, rfl, rfl, rfl, rfl, trivial⟩ ?_
      refine V_nil (.inl rfl) ?_
      refine E_then ?_
      refine J_ret ?_
      -- return R2
      refine E_ret1 Tryd.results85 rfl (fun w hw => ?_)
      exact ⟨by rw [cmp1, if_neg (by omega), if_neg (by omega)], hw⟩


theorem cmp1_lt {a b : Int} (h : ¬ cmp1 a b ≠ 0) : ¬ a < b := fun hh => h (by rw [cmp1, if_pos hh]; decide)
theorem cmp1_gt {a b : Int} (h : ¬ cmp1 a b ≠ 0) : ¬ b < a := fun hh => h (by rw [cmp1, if_neg (by omega), if_pos hh]; decide)
theorem cmp1_ne {a b r : Int} (h : cmp1 a b ≠ 0) : (if a < b then -1 else if b < a then 1 else r) = cmp1 a b := by
  unfold cmp1 at h ⊢
  split
  · rfl
  · split
    · rfl
    · rename_i h1 h2; rw [if_neg h1, if_neg h2] at h; exact (h rfl).elim

theorem compare_spec (w : World) (A A2 : Option Addr) (c c2 : Nat) (xs ys : List Int) (hl : xs.length ≤ 140737488351232) (hl2 : ys.length ≤ 140737488351232) (hr : Rd w A (I xs)) (hr2 : Rd w A2 (I ys)) :
    Calls Tryd.prog 42 #[.slice A xs.length c, .slice A2 ys.length c2] w fun e w' => e = .returned (.int .i64 (cmpI xs ys)) ∧ St w [] w' := by
  refine calls (args := [.slice A xs.length c, .slice A2 ys.length c2]) Tryd.func42 rfl Tryd.ntmps42 (Nat.le_of_ble_eq_true rfl) (St.refl w) ?_
  refine J_seq ?_
  refine J_region ?_
  refine V_asg (.n _) rfl rfl ?_   -- 0.0
  refine V_sub [(0, _), (1, _), (4, _)] ⟨rfl, rfl, rfl, trivial⟩ ?_
  refine V_nil (.inl rfl) ?_
  refine E_then ?_
  refine J_seq ?_
  refine J_seq ?_
  refine J_region ?_
  refine V_mov (.n _) rfl rfl ?_   -- 1.0
  refine V_len (.n _) Tryd.underlying34 rfl rfl ?_   -- 1.1
  refine V_mov (.n _) rfl rfl ?_   -- 1.2
  refine V_sub [(0, _), (1, _), (4, _), (9, _), (10, _), (11, _)] ⟨rfl, rfl, rfl, rfl, rfl, rfl, trivial⟩ ?_
  refine V_nil (.inl rfl) ?_
  refine E_then ?_
  refine J_block ?_
  -- loop L0
  refine J_loop (X := Nat) (fun k => [(0, (.slice A xs.length c)), (1, (.slice A2 ys.length c2)), (9, (.slice A xs.length c)), (10, (.int .i64 ((xs.length : Nat) : Int))), (11, .int .i64 (k : Nat))]) (fun k => []) (fun k => k ≤ xs.length ∧ k ≤ ys.length ∧ cmpI (xs.drop k) (ys.drop k) = cmpI xs ys) (fun k => xs.length - k) (0) (by refine ⟨?_, ?_, ?_, ?_, ?_, trivial⟩ <;> first | rfl | exact int_eq (by omega)) (fun w h => h) ?_ ?_
  · exact ⟨Nat.zero_le _, Nat.zero_le _, rfl⟩
  · rintro k ⟨hk1, hk2, hk3⟩
    refine J_seq ?_
    refine J_region ?_
    refine V_lss (.n _) rfl rfl rfl ?_   -- 2.0
    refine V_sub [(0, _), (1, _), (9, _), (10, _), (11, _), (12, _)] ⟨rfl, rfl, rfl, rfl, rfl, rfl, trivial⟩ ?_
    refine V_nil (.inl rfl) ?_
    refine E_then ?_
    refine J_seq ?_
    refine J_cond rfl (fun h1 => ?_) (fun h1 => ?_)   -- C0
    · skip
      refine J_skip ?_
      refine E_then ?_
      refine J_seq ?_
      refine J_block ?_
      refine J_seq ?_
      refine J_region ?_
      refine V_mov (.n _) rfl rfl ?_   -- 3.0
      first | refine V_ix (.n _) Tryd.underlying34 Tryd.sizeOf3 rfl rfl (by omega) (by omega) rfl ?_ | refine V_ixz (.n _) Tryd.underlying34 Tryd.sizeOf3 rfl rfl (hr.pl (by simp)) (by omega) (by omega) rfl ?_ | refine V_ixz (.n _) Tryd.underlying34 Tryd.sizeOf3 rfl rfl (hr2.pl (by simp)) (by omega) (by omega) rfl ?_   -- 3.1
      refine V_ldz (.n _) Tryd.isAgg3 rfl hr (I_getN (i := k) (by omega)) rfl ?_   -- 3.2
      refine V_asg (.n _) rfl rfl ?_   -- 3.3
      refine V_asg (.n _) rfl rfl ?_   -- 3.4
      refine V_sub [(0, _), (1, _), (5, _), (6, _), (9, _), (10, _), (11, _), (12, _)] ⟨rfl, rfl, rfl, rfl, rfl, rfl, rfl, rfl, trivial⟩ ?_
      refine V_nil (.inl rfl) ?_
      refine E_then ?_
      refine J_seq ?_
      refine J_seq ?_
      refine J_region ?_
      refine V_mov (.n _) rfl rfl ?_   -- 4.0
      refine V_mov (.n _) rfl rfl ?_   -- 4.1
      refine V_len (.n _) Tryd.underlying34 rfl rfl ?_   -- 4.2
      refine V_geq (.n _) rfl rfl rfl ?_   -- 4.3
      refine V_sub [(0, _), (1, _), (5, _), (6, _), (9, _), (10, _), (11, _), (12, _), (19, _)] ⟨rfl, rfl, rfl, rfl, rfl, rfl, rfl, rfl, rfl, trivial⟩ ?_
      refine V_nil (.inl rfl) ?_
      refine E_then ?_
      refine J_cond rfl (fun h2 => ?_) (fun h2 => ?_)   -- C1
      · skip
        refine J_seq ?_
        refine J_region ?_
        refine V_asg (.n _) rfl rfl ?_   -- 5.0
        refine V_sub [(0, _), (1, _), (4, _), (5, _), (6, _), (9, _), (10, _), (11, _), (12, _), (19, _)] ⟨rfl, rfl, rfl, rfl, rfl, rfl, rfl, rfl, rfl, rfl, trivial⟩ ?_
        refine V_nil (.inl rfl) ?_
        refine E_then ?_
        refine J_ret ?_
        refine E_then_ret ?_
        refine E_blk_ret ?_
        refine E_then_ret ?_
        refine E_lp_ret ?_
        refine E_blk_ret ?_
        refine E_then_ret ?_
        -- return R0
        refine E_ret1 Tryd.results42 rfl (fun w hw => ?_)
        exact ⟨by rw [← hk3, List.drop_eq_getElem_cons (show k < xs.length by omega), List.drop_of_length_le (show ys.length ≤ k by omega)]; rfl, hw⟩
      · skip
        refine J_skip ?_
        refine E_then ?_
        refine J_seq ?_
        refine J_region ?_
        refine V_mov (.n _) rfl rfl ?_   -- 6.0
        refine V_mov (.n _) rfl rfl ?_   -- 6.1
        refine V_ixz (.n _) Tryd.underlying34 Tryd.sizeOf3 rfl rfl (hr2.pl (by simp)) (by omega) (by omega) rfl ?_   -- 6.2
        refine V_ldz (.n _) Tryd.isAgg3 rfl hr2 (I_getN (i := k) (by omega)) rfl ?_   -- 6.3
        have hcd := cmpI_drop (xs := xs) (ys := ys) (k := k) (by omega) (by omega)
        refine V_asg (.n _) rfl rfl ?_   -- 6.4
        refine V_sub [(0, _), (1, _), (5, _), (6, _), (7, _), (9, _), (10, _), (11, _), (12, _), (19, _)] ⟨rfl, rfl, rfl, rfl, rfl, rfl, rfl, rfl, rfl, rfl, trivial⟩ ?_
        refine V_nil (.inl rfl) ?_
        refine E_then ?_
        refine J_seq ?_
        refine J_region ?_
        refine V_mov (.n _) rfl rfl ?_   -- 7.0
        refine V_mov (.n _) rfl rfl ?_   -- 7.1
        refine V_call0 (.n _) Tryd.call85 (.cons rfl (.cons rfl .nil)) (fun w1 hw1 => cmp1_spec w1 (xs.getD k 0) (ys.getD k 0)) rfl trivial ?_   -- 7.2
        refine V_asg (.n _) rfl rfl ?_   -- 7.3
        refine V_sub [(0, _), (1, _), (5, _), (6, _), (7, _), (8, _), (9, _), (10, _), (11, _), (12, _), (19, _)] ⟨rfl, rfl, rfl, rfl, rfl, rfl, rfl, rfl, rfl, rfl, rfl, trivial⟩ ?_
        refine V_nil (.inl rfl) ?_
        refine E_then ?_
        refine J_seq ?_
        refine J_region ?_
        refine V_mov (.n _) rfl rfl ?_   -- 8.0
        refine V_neq (.n _) rfl rfl rfl ?_   -- 8.1
        refine V_sub [(0, _), (1, _), (5, _), (6, _), (7, _), (8, _), (9, _), (10, _), (11, _), (12, _), (19, _), (28, _)] ⟨rfl, rfl, rfl, rfl, rfl, rfl, rfl, rfl, rfl, rfl, rfl, rfl, trivial⟩ ?_
        refine V_nil (.inl rfl) ?_
        refine E_then ?_
        refine J_cond rfl (fun h3 => ?_) (fun h3 => ?_)   -- C2
        · skip
          refine J_seq ?_
          refine J_region ?_
          refine V_mov (.n _) rfl rfl ?_   -- 9.0
          refine V_asg (.n _) rfl rfl ?_   -- 9.1
          refine V_sub [(0, _), (1, _), (4, _), (5, _), (6, _), (7, _), (8, _), (9, _), (10, _), (11, _), (12, _), (19, _), (28, _)] ⟨rfl, rfl, rfl, rfl, rfl, rfl, rfl, rfl, rfl, rfl, rfl, rfl, rfl, trivial⟩ ?_
          refine V_nil (.inl rfl) ?_
          refine E_then ?_
          refine J_ret ?_
          refine E_blk_ret ?_
          refine E_then_ret ?_
          refine E_lp_ret ?_
          refine E_blk_ret ?_
          refine E_then_ret ?_
          -- return R1
          refine E_ret1 Tryd.results42 rfl (fun w hw => ?_)
          exact ⟨by rw [← hk3, hcd, cmp1_ne (by assumption)], hw⟩
        · skip
          refine J_skip ?_
          refine E_blk ?_
          refine E_then ?_
          refine J_region ?_
          refine V_add (.n _) rfl rfl (wrap_ok (by omega)) rfl ?_   -- 10.0
          refine V_mov (.n _) rfl rfl ?_   -- 10.1
          refine V_sub [(0, _), (1, _), (5, _), (6, _), (7, _), (8, _), (9, _), (10, _), (11, _), (12, _), (19, _), (28, _)] ⟨rfl, rfl, rfl, rfl, rfl, rfl, rfl, rfl, rfl, rfl, rfl, rfl, trivial⟩ ?_
          refine V_nil (.inl rfl) ?_
          -- again L0 0
          refine E_again (k + 1) ?_ ?_ ?_ (fun w h => h)
          · omega
          · refine ⟨by omega, by omega, ?_⟩
            rw [← hk3, hcd, if_neg (cmp1_lt (by omega)), if_neg (cmp1_gt (by omega))]
          · refine ⟨?_, ?_, ?_, ?_, ?_, trivial⟩ <;> first | rfl | exact int_eq (by omega) | exact int_eq (by dsimp only; omega)
    · skip
      refine J_exit ?_
      refine E_then_exit ?_
      refine E_lp_exit ?_
      refine E_blk_hit ?_
      refine E_then ?_
      refine J_seq ?_
      refine J_seq ?_
      refine J_region ?_
      refine V_mov (.n _) rfl rfl ?_   -- 11.0
      refine V_len (.n _) Tryd.underlying34 rfl rfl ?_   -- 11.1
      refine V_mov (.n _) rfl rfl ?_   -- 11.2
      refine V_len (.n _) Tryd.underlying34 rfl rfl ?_   -- 11.3
      refine V_lss (.n _) rfl rfl rfl ?_   -- 11.4
      refine V_sub [(0, _), (1, _), (9, _), (10, _), (11, _), (12, _), (35, _)] ⟨rfl, rfl, rfl, rfl, rfl, rfl, rfl, trivial⟩ ?_
      refine V_nil (.inl rfl) ?_
      refine E_then ?_
      refine J_cond rfl (fun h4 => ?_) (fun h4 => ?_)   -- C3
      · skip
        refine J_seq ?_
        refine J_region ?_
        refine V_asg (.n _) rfl rfl ?_   -- 12.0
        refine V_sub [(0, _), (1, _), (4, _), (9, _), (10, _), (11, _), (12, _), (35, _)] ⟨rfl, rfl, rfl, rfl, rfl, rfl, rfl, rfl, trivial⟩ ?_
        refine V_nil (.inl rfl) ?_
        refine E_then ?_
        refine J_ret ?_
        refine E_then_ret ?_
        -- return R2
        refine E_ret1 Tryd.results42 rfl (fun w hw => ?_)
        exact ⟨by rw [← hk3, List.drop_eq_getElem_cons (show k < ys.length by omega), List.drop_of_length_le (show xs.length ≤ k by omega)]; rfl, hw⟩
      · skip
        refine J_skip ?_
        refine E_then ?_
        refine J_seq ?_
        refine J_region ?_
        refine V_asg (.n _) rfl rfl ?_   -- 13.0
        refine V_sub [(0, _), (1, _), (4, _), (9, _), (10, _), (11, _), (12, _), (35, _)] ⟨rfl, rfl, rfl, rfl, rfl, rfl, rfl, rfl, trivial⟩ ?_
        refine V_nil (.inl rfl) ?_
        refine E_then ?_
        refine J_ret ?_
        -- return R3
        refine E_ret1 Tryd.results42 rfl (fun w hw => ?_)
        exact ⟨by rw [← hk3, List.drop_of_length_le (show ys.length ≤ k by omega), List.drop_of_length_le (show xs.length ≤ k by omega)]; rfl, hw⟩

end Go.Proofs.YtgeahmmepfmcoaaDoor
