/- parts that the proof of BathTours uses -/
import Derived.Test.YtgeahmmepfmcoaaDoorCore11
namespace Go.Proofs.YtgeahmmepfmcoaaDoor
open Go Go.RowKit L
set_option linter.unusedVariables false
set_option linter.unusedSimpArgs false

def okC (c : Int) : Bool := decide (0 ≤ c) && decide (c ≤ 1000)
def costsB (l : List Int) (n : Nat) : Bool := decide (l.length = n) && l.all okC
def okB (n : Nat) (b : Int × Int) : Bool := !(b.1 == b.2) && decide (0 ≤ b.1) && decide (0 ≤ b.2) && decide (b.1 < n) && decide (b.2 < n)
theorem all_not {α : Type} (l : List α) (f : α → Bool) : (!(l.any fun x => !f x)) = l.all f := by
  induction l with
  | nil => rfl
  | cons a l ih => simp only [List.any_cons, List.all_cons, Bool.not_or, Bool.not_not, ih]
structure VP (st : List Int) (ch : Rows2) (be : List (Int × Int)) : Prop where
  n1 : 1 ≤ st.length
  n10 : st.length ≤ 10
  cst : costsB st st.length = true
  chl : ch.length = st.length
  bel : be.length ≤ 40
  rws : ∀ r ∈ ch, costsB r st.length = true
  prs : ∀ b ∈ be, okB st.length b = true
theorem costsB_get {l : List Int} {n : Nat} (h : costsB l n = true) : l.length = n ∧ ∀ j, j < n → 0 ≤ l.getD j 0 ∧ l.getD j 0 ≤ 1000 := by
  unfold costsB at h
  simp only [Bool.and_eq_true, decide_eq_true_eq, List.all_eq_true] at h
  refine ⟨h.1, fun j hj => ?_⟩
  have hj' : j < l.length := by omega
  have := h.2 (l.getD j 0) (by simp [hj'])
  simpa [okC] using this
theorem getD_mem {α : Type} {l : List α} {j : Nat} {d : α} (h : j < l.length) : l.getD j d ∈ l := by simp [h]
theorem VP.row {st : List Int} {ch : Rows2} {be : List (Int × Int)} (h : VP st ch be) {i : Nat} (hi : i < st.length) : (ch.getD i []).length = st.length ∧ ∀ j, j < st.length → 0 ≤ (ch.getD i []).getD j 0 ∧ (ch.getD i []).getD j 0 ≤ 1000 :=
  costsB_get (h.rws _ (getD_mem (by rw [h.chl]; exact hi)))
def natB (be : List (Int × Int)) : Pairs := be.map fun b => (b.1.toNat, b.2.toNat)
theorem VP.ok {st : List Int} {ch : Rows2} {be : List (Int × Int)} (h : VP st ch be) : PlanOk st.length st ch := ⟨(costsB_get h.cst).2, fun i j hi hj => (h.row hi).2 j hj, h.n10⟩
theorem VP.pair {st : List Int} {ch : Rows2} {be : List (Int × Int)} (h : VP st ch be) {i : Nat} (hi : i < be.length) : ∃ a b : Nat, be.getD i (0, 0) = ((a : Int), (b : Int)) ∧ a < st.length ∧ b < st.length ∧ (natB be).getD i (0, 0) = (a, b) := by
  have := h.prs _ (getD_mem (d := (0, 0)) hi)
  generalize hx : be.getD i (0, 0) = x at this
  unfold okB at this
  simp only [Bool.and_eq_true, decide_eq_true_eq] at this
  refine ⟨x.1.toNat, x.2.toNat, ?_, by omega, by omega, ?_⟩
  · exact Prod.ext (by dsimp only; omega) (by dsimp only; omega)
  · rw [← hx]; simp [natB, hi]
theorem VP.lt {st : List Int} {ch : Rows2} {be : List (Int × Int)} (h : VP st ch be) : ∀ b ∈ natB be, b.1 < st.length := by
  intro b hb
  obtain ⟨x, hx, rfl⟩ := List.mem_map.1 hb
  have := h.prs x hx
  unfold okB at this
  simp only [Bool.and_eq_true, decide_eq_true_eq] at this
  dsimp only; omega
theorem any_all {α : Type} {l : List α} {d : α} {g : α → Bool} (h : ∀ j, j < l.length → g (l.getD j d) = false) : l.any g = false := by
  refine List.any_eq_false.2 fun x hx => ?_
  obtain ⟨i, hi, rfl⟩ := List.mem_iff_getElem.1 hx
  have := h i hi
  simp [hi] at this
  simp [this]

theorem cost1_spec (w : World) (v : Int) : Calls Tryd.prog 122 #[.int .i64 v] w fun e w' => e = .returned (.bool (!okC v)) ∧ St w [] w' := by
  refine calls (args := [.int .i64 v]) Tryd.func122 rfl Tryd.ntmps122 (Nat.le_of_ble_eq_true rfl) (St.refl w) ?_
  refine J_seq ?_
  refine J_region ?_
  refine V_asg (.n _) rfl rfl ?_   -- 0.0
  refine V_sub [(0, _), (2, _)] ⟨rfl, rfl, trivial⟩ ?_
  refine V_nil (.inl rfl) ?_
  refine E_then ?_
  refine J_seq ?_
  refine J_region ?_
  refine V_mov (.n _) rfl rfl ?_   -- 1.0
  refine V_lss (.n _) rfl rfl rfl ?_   -- 1.1
  refine V_mov (.n _) rfl rfl ?_   -- 1.2
  refine V_split 5 rfl (fun h1 => ?_) (fun h1 => ?_)   -- guard 1.2
  · skip
    refine V_pass (.n .p) (2, false) rfl rfl ?_   -- 1.3
    refine V_pass (.n .p) (2, false) rfl rfl ?_   -- 1.4
    refine V_pickT (.n _) rfl rfl rfl ?_   -- 1.5
    refine V_asg (.n _) rfl rfl ?_   -- 1.6
    refine V_sub [(0, _), (2, _)] ⟨rfl, rfl, trivial⟩ ?_
    refine V_nil (.inl rfl) ?_
    refine E_then ?_
    refine J_ret ?_
    -- return R0
    refine E_ret1 Tryd.results122 rfl (fun w hw => ?_)
    exact ⟨by rw [okC, decide_eq_false (show ¬ 0 ≤ v by omega)]; rfl, hw⟩
  · skip
    refine V_go (2, false) rfl ?_
    refine V_mov (.n _) rfl rfl ?_   -- 1.3
    refine V_go (2, false) rfl ?_
    refine V_gtr (.n _) rfl rfl rfl ?_   -- 1.4
    refine V_pickF (.n _) rfl rfl rfl ?_   -- 1.5
    refine V_asg (.n _) rfl rfl ?_   -- 1.6
    refine V_sub [(0, _), (2, _)] ⟨rfl, rfl, trivial⟩ ?_
    refine V_nil (.inl rfl) ?_
    refine E_then ?_
    refine J_ret ?_
    -- return R1
    refine E_ret1 Tryd.results122 rfl (fun w hw => ?_)
    refine ⟨?_, hw⟩
    rw [okC, decide_eq_true (show 0 ≤ v by omega), Bool.true_and, show decide (1000 < v) = !decide (v ≤ 1000) from by rw [← decide_not]; exact decide_eq_decide.2 (by omega)]

theorem costs_index (w : World) (A : Option Addr) (c : Nat) (xs : List (Int)) (hl : xs.length ≤ 140737488351232) (hr : Rd w A (I xs)) :
    Calls Tryd.prog 121 #[.slice A xs.length c, .func (.func 122) #[] #[]] w fun e w' => ∃ i : Int, e = .returned (.int .i64 i) ∧ decide (0 ≤ i) = xs.any (fun c => !okC c) ∧ St w [] w' := by
  refine calls (args := [.slice A xs.length c, .func (.func 122) #[] #[]]) Tryd.func121 rfl Tryd.ntmps121 (Nat.le_of_ble_eq_true rfl) (St.refl w) ?_
  refine J_seq ?_
  refine J_region ?_
  refine V_asg (.n _) rfl rfl ?_   -- 0.0
  refine V_sub [(0, _), (1, _), (4, _)] ⟨rfl, rfl, rfl, trivial⟩ ?_
  refine V_nil (.inl rfl) ?_
  refine E_then ?_
  refine J_seq ?_
  refine J_seq ?_
  refine J_region ?_
  refine V_mov (.n _) rfl rfl ?_   -- 1.0
  refine V_len (.n _) Tryd.underlying34 rfl rfl ?_   -- 1.1
  refine V_mov (.n _) rfl rfl ?_   -- 1.2
  refine V_sub [(0, _), (1, _), (4, _), (7, _), (8, _)] ⟨rfl, rfl, rfl, rfl, rfl, trivial⟩ ?_
  refine V_nil (.inl rfl) ?_
  refine E_then ?_
  refine J_block ?_
  -- loop L0
  refine J_loop (X := Int) (fun k => [(0, (.slice A xs.length c)), (1, (.func (.func 122) #[] #[])), (7, (.int .i64 ((xs.length : Nat) : Int))), (8, .int .i64 k)]) (fun k => []) (fun k => 0 ≤ k ∧ k ≤ xs.length ∧ ∀ j : Nat, (j : Int) < k → (fun c => !okC c) (xs.getD j default) = false) (fun k => (xs.length - k).toNat) (0) (by refine ⟨?_, ?_, ?_, ?_, trivial⟩ <;> first | rfl | exact int_eq (by omega)) (fun w h => h) ?_ ?_
  · exact ⟨by omega, by omega, fun j hj => by omega⟩
  · rintro k ⟨hk0, hk1, hk2⟩
    refine J_seq ?_
    refine J_region ?_
    refine V_lss (.n _) rfl rfl rfl ?_   -- 2.0
    refine V_sub [(0, _), (1, _), (7, _), (8, _), (9, _)] ⟨rfl, rfl, rfl, rfl, rfl, trivial⟩ ?_
    refine V_nil (.inl rfl) ?_
    refine E_then ?_
    refine J_seq ?_
    refine J_cond rfl (fun h1 => ?_) (fun h1 => ?_)   -- C0
    · skip
      refine J_skip ?_
      refine E_then ?_
      refine J_seq ?_
      refine J_block ?_
      refine J_seq ?_
      refine J_region ?_
      refine V_mov (.n _) rfl rfl ?_   -- 3.0
      refine V_asg (.n _) rfl rfl ?_   -- 3.1
      refine V_sub [(0, _), (1, _), (5, _), (7, _), (8, _), (9, _)] ⟨rfl, rfl, rfl, rfl, rfl, rfl, trivial⟩ ?_
      refine V_nil (.inl rfl) ?_
      refine E_then ?_
      refine J_seq ?_
      refine J_region ?_
      refine V_mov (.n _) rfl rfl ?_   -- 4.0
      refine V_mov (.n _) rfl rfl ?_   -- 4.1
      refine V_mov (.n _) rfl rfl ?_   -- 4.2
      first | refine V_ix (.n _) Tryd.underlying34 Tryd.sizeOf3 rfl rfl (by omega) (by omega) rfl ?_ | refine V_ixz (.n _) Tryd.underlying34 Tryd.sizeOf3 rfl rfl (hr.pl (by simp)) (by omega) (by omega) rfl ?_   -- 4.3
      first | refine V_ld (.n _) Tryd.isAgg3 rfl (by repeat (first | exact List.Mem.head _ | assumption | apply List.Mem.tail)) (by rfl) rfl ?_ | refine V_ldz (.n _) Tryd.isAgg3 rfl hr (I_get0 (by omega) (by omega)) rfl ?_   -- 4.4
      refine V_callC0 (.n _) Tryd.call122 rfl (.cons rfl .nil) (fun w1 hw1 => cost1_spec w1 (xs.getD k.toNat 0)) rfl trivial ?_   -- 4.5
      refine V_sub [(0, _), (1, _), (5, _), (7, _), (8, _), (9, _), (16, _)] ⟨rfl, rfl, rfl, rfl, rfl, rfl, rfl, trivial⟩ ?_
      refine V_nil (.inl rfl) ?_
      refine E_then ?_
      refine J_condB rfl (fun h2 => ?_) (fun h2 => ?_)   -- C1
      · skip
        refine J_seq ?_
        refine J_region ?_
        refine V_mov (.n _) rfl rfl ?_   -- 5.0
        refine V_asg (.n _) rfl rfl ?_   -- 5.1
        refine V_sub [(0, _), (1, _), (4, _), (5, _), (7, _), (8, _), (9, _), (16, _)] ⟨rfl, rfl, rfl, rfl, rfl, rfl, rfl, rfl, trivial⟩ ?_
        refine V_nil (.inl rfl) ?_
        refine E_then ?_
        refine J_ret ?_
        refine E_blk_ret ?_
        refine E_then_ret ?_
        refine E_lp_ret ?_
        refine E_blk_ret ?_
        refine E_then_ret ?_
        -- return R0
        refine E_ret1 Tryd.results121 rfl (fun w hw => ?_)
        exact ⟨k, rfl, any_yes hk0 h1 h2, hw⟩
      · skip
        refine J_skip ?_
        refine E_blk ?_
        refine E_then ?_
        refine J_region ?_
        refine V_add (.n _) rfl rfl (wrap_ok (by omega)) rfl ?_   -- 6.0
        refine V_mov (.n _) rfl rfl ?_   -- 6.1
        refine V_sub [(0, _), (1, _), (5, _), (7, _), (8, _), (9, _), (16, _)] ⟨rfl, rfl, rfl, rfl, rfl, rfl, rfl, trivial⟩ ?_
        refine V_nil (.inl rfl) ?_
        -- again L0 0
        refine E_again (k + 1) ?_ ?_ ?_ (fun w h => h)
        · omega
        · exact ⟨by omega, by omega, any_step (g := fun c => !okC c) hk0 hk2 h2⟩
        · refine ⟨?_, ?_, ?_, ?_, trivial⟩ <;> first | rfl | exact int_eq (by omega) | exact int_eq (by dsimp only; omega)
    · skip
      refine J_exit ?_
      refine E_then_exit ?_
      refine E_lp_exit ?_
      refine E_blk_hit ?_
      refine E_then ?_
      refine J_seq ?_
      refine J_region ?_
      refine V_asg (.n _) rfl rfl ?_   -- 7.0
      refine V_sub [(0, _), (1, _), (4, _), (7, _), (8, _), (9, _)] ⟨rfl, rfl, rfl, rfl, rfl, rfl, trivial⟩ ?_
      refine V_nil (.inl rfl) ?_
      refine E_then ?_
      refine J_ret ?_
      -- return R1
      refine E_ret1 Tryd.results121 rfl (fun w hw => ?_)
      exact ⟨-1, rfl, any_no (by omega) hk2, hw⟩

theorem costs_any (w : World) (A : Option Addr) (c : Nat) (xs : List (Int)) (hl : xs.length ≤ 140737488351232) (hr : Rd w A (I xs)) :
    Calls Tryd.prog 106 #[.slice A xs.length c, .func (.func 122) #[] #[]] w fun e w' => e = .returned (.bool (xs.any (fun c => !okC c))) ∧ St w [] w' := by
  refine calls (args := [.slice A xs.length c, .func (.func 122) #[] #[]]) Tryd.func106 rfl Tryd.ntmps106 (Nat.le_of_ble_eq_true rfl) (St.refl w) ?_
  refine J_seq ?_
  refine J_region ?_
  refine V_asg (.n _) rfl rfl ?_   -- 0.0
  refine V_sub [(0, _), (1, _), (4, _)] ⟨rfl, rfl, rfl, trivial⟩ ?_
  refine V_nil (.inl rfl) ?_
  refine E_then ?_
  refine J_seq ?_
  refine J_region ?_
  refine V_mov (.n _) rfl rfl ?_   -- 1.0
  refine V_mov (.n _) rfl rfl ?_   -- 1.1
  refine V_call (post := fun v D => ∃ i : Int, v = .int .i64 i ∧ decide (0 ≤ i) = xs.any (fun c => !okC c) ∧ D = []) (.n _) Tryd.call121 (.cons rfl (.cons rfl .nil)) (fun w1 hw1 => (costs_index w1 A c xs hl (hr.keep hw1)).mono fun e w2 ⟨i, he, hi, hD⟩ => ⟨_, [], he, hD, i, rfl, hi, rfl⟩) rfl trivial ?_
  rintro v D ⟨i, rfl, hi, rfl⟩
  refine V_geq (.n _) rfl rfl rfl ?_   -- 1.3
  refine V_asg (.n _) rfl rfl ?_   -- 1.4
  refine V_sub [(0, _), (1, _), (4, _)] ⟨rfl, rfl, rfl, trivial⟩ ?_
  refine V_nil (.inl rfl) ?_
  refine E_then ?_
  refine J_ret ?_
  -- return R0
  refine E_ret1 Tryd.results106 rfl (fun w hw => ?_)
  exact ⟨by rw [← hi], hw⟩

theorem costs_spec (w : World) (A : Option Addr) (c : Nat) (xs : List Int) (n : Nat) (hl : xs.length ≤ 140737488351232) (hr : Rd w A (I xs)) : Calls Tryd.prog 108 #[.slice A xs.length c, .int .i64 n] w fun e w' => e = .returned (.bool (costsB xs n)) ∧ St w [] w' := by
  refine calls (args := [.slice A xs.length c, .int .i64 n]) Tryd.func108 rfl Tryd.ntmps108 (Nat.le_of_ble_eq_true rfl) (St.refl w) ?_
  refine J_seq ?_
  refine J_region ?_
  refine V_asg (.n _) rfl rfl ?_   -- 0.0
  refine V_sub [(0, _), (1, _), (4, _)] ⟨rfl, rfl, rfl, trivial⟩ ?_
  refine V_nil (.inl rfl) ?_
  refine E_then ?_
  refine J_seq ?_
  refine J_region ?_
  refine V_mov (.n _) rfl rfl ?_   -- 1.0
  refine V_len (.n _) Tryd.underlying34 rfl rfl ?_   -- 1.1
  refine V_mov (.n _) rfl rfl ?_   -- 1.2
  refine V_eql (.n _) rfl rfl rfl ?_   -- 1.3
  refine V_mov (.n _) rfl rfl ?_   -- 1.4
  refine V_split 9 rfl (fun h1 => ?_) (fun h1 => ?_)   -- guard 1.4
  · skip
    refine V_go (4, true) rfl ?_
    refine V_mov (.n _) rfl rfl ?_   -- 1.5
    refine V_go (4, true) rfl ?_
    refine V_call0 (.n _) Tryd.call106 (.cons rfl (.cons rfl .nil)) (fun w1 hw1 => costs_any w1 A c xs hl (hr.keep hw1)) rfl trivial ?_   -- 1.6
    refine V_go (4, true) rfl ?_
    refine V_notB (.n _) rfl rfl ?_   -- 1.7
    refine V_pickT (.n _) rfl rfl rfl ?_   -- 1.8
    refine V_asg (.n _) rfl rfl ?_   -- 1.9
    refine V_sub [(0, _), (1, _), (4, _)] ⟨rfl, rfl, rfl, trivial⟩ ?_
    refine V_nil (.inl rfl) ?_
    refine E_then ?_
    refine J_ret ?_
    -- return R0
    refine E_ret1 Tryd.results108 rfl (fun w hw => ?_)
    exact ⟨by rw [costsB, decide_eq_true (by omega), all_not]; rfl, hw⟩
  · skip
    refine V_pass (.n .p) (4, true) rfl rfl ?_   -- 1.5
    refine V_pass (.n .p) (4, true) rfl rfl ?_   -- 1.6
    refine V_pass (.n .p) (4, true) rfl rfl ?_   -- 1.7
    refine V_pickF (.n _) rfl rfl rfl ?_   -- 1.8
    refine V_asg (.n _) rfl rfl ?_   -- 1.9
    refine V_sub [(0, _), (1, _), (4, _)] ⟨rfl, rfl, rfl, trivial⟩ ?_
    refine V_nil (.inl rfl) ?_
    refine E_then ?_
    refine J_ret ?_
    -- return R1
    refine E_ret1 Tryd.results108 rfl (fun w hw => ?_)
    exact ⟨by rw [costsB, decide_eq_false (by omega)]; rfl, hw⟩

theorem cheap_spec (w : World) (A : Option Addr) (c : Nat) (xs : List Int) (hl : xs.length ≤ 140737488351232) (hr : Rd w A (I xs)) : Calls Tryd.prog 80 #[.slice A xs.length c] w fun e w' => e = .returned (.bool (xs.all okC)) ∧ St w [] w' := by
  refine calls (args := [.slice A xs.length c]) Tryd.func80 rfl Tryd.ntmps80 (Nat.le_of_ble_eq_true rfl) (St.refl w) ?_
  refine J_seq ?_
  refine J_region ?_
  refine V_asg (.n _) rfl rfl ?_   -- 0.0
  refine V_sub [(0, _), (2, _)] ⟨rfl, rfl, trivial⟩ ?_
  refine V_nil (.inl rfl) ?_
  refine E_then ?_
  refine J_seq ?_
  refine J_seq ?_
  refine J_region ?_
  refine V_mov (.n _) rfl rfl ?_   -- 1.0
  refine V_len (.n _) Tryd.underlying34 rfl rfl ?_   -- 1.1
  refine V_mov (.n _) rfl rfl ?_   -- 1.2
  refine V_sub [(0, _), (2, _), (5, _), (6, _), (7, _)] ⟨rfl, rfl, rfl, rfl, rfl, trivial⟩ ?_
  refine V_nil (.inl rfl) ?_
  refine E_then ?_
  refine J_block ?_
  -- loop L0
  refine J_loop (X := Nat) (fun k => [(0, (.slice A xs.length c)), (5, (.slice A xs.length c)), (6, (.int .i64 ((xs.length : Nat) : Int))), (7, .int .i64 (k : Nat))]) (fun k => []) (fun k => k ≤ xs.length ∧ ∀ j, j < k → okC (xs.getD j 0) = true) (fun k => xs.length - k) (0) (by refine ⟨?_, ?_, ?_, ?_, trivial⟩ <;> first | rfl | exact int_eq (by omega)) (fun w h => h) ?_ ?_
  · exact ⟨by omega, fun j hj => by omega⟩
  · rintro k ⟨hk, hk2⟩
    refine J_seq ?_
    refine J_region ?_
    refine V_lss (.n _) rfl rfl rfl ?_   -- 2.0
    refine V_sub [(0, _), (5, _), (6, _), (7, _), (8, _)] ⟨rfl, rfl, rfl, rfl, rfl, trivial⟩ ?_
    refine V_nil (.inl rfl) ?_
    refine E_then ?_
    refine J_seq ?_
    refine J_cond rfl (fun h1 => ?_) (fun h1 => ?_)   -- C0
    · skip
      refine J_skip ?_
      refine E_then ?_
      refine J_seq ?_
      refine J_block ?_
      refine J_seq ?_
      refine J_region ?_
      first | refine V_ix (.n _) Tryd.underlying34 Tryd.sizeOf3 rfl rfl (by omega) (by omega) rfl ?_ | refine V_ixz (.n _) Tryd.underlying34 Tryd.sizeOf3 rfl rfl (hr.pl (by simp)) (by omega) (by omega) rfl ?_   -- 3.0
      first | refine V_ld (.n _) Tryd.isAgg3 rfl (by repeat (first | exact List.Mem.head _ | assumption | apply List.Mem.tail)) (by rfl) rfl ?_ | refine V_ldz (.n _) Tryd.isAgg3 rfl hr (I_getN (by omega)) rfl ?_   -- 3.1
      refine V_asg (.n _) rfl rfl ?_   -- 3.2
      refine V_sub [(0, _), (4, _), (5, _), (6, _), (7, _), (8, _)] ⟨rfl, rfl, rfl, rfl, rfl, rfl, trivial⟩ ?_
      refine V_nil (.inl rfl) ?_
      refine E_then ?_
      refine J_seq ?_
      refine J_region ?_
      refine V_mov (.n _) rfl rfl ?_   -- 4.0
      refine V_lss (.n _) rfl rfl rfl ?_   -- 4.1
      refine V_mov (.n _) rfl rfl ?_   -- 4.2
      refine V_split 13 rfl (fun h2 => ?_) (fun h2 => ?_)   -- guard 4.2
      · skip
        refine V_pass (.n .p) (2, false) rfl rfl ?_   -- 4.3
        refine V_pass (.n .p) (2, false) rfl rfl ?_   -- 4.4
        refine V_pickT (.n _) rfl rfl rfl ?_   -- 4.5
        refine V_sub [(0, _), (4, _), (5, _), (6, _), (7, _), (8, _), (16, _)] ⟨rfl, rfl, rfl, rfl, rfl, rfl, rfl, trivial⟩ ?_
        refine V_nil (.inl rfl) ?_
        refine E_then ?_
        refine J_condT rfl ?_
        refine J_seq ?_
        refine J_region ?_
        refine V_asg (.n _) rfl rfl ?_   -- 5.0
        refine V_sub [(0, _), (2, _), (4, _), (5, _), (6, _), (7, _), (8, _), (16, _)] ⟨rfl, rfl, rfl, rfl, rfl, rfl, rfl, rfl, trivial⟩ ?_
        refine V_nil (.inl rfl) ?_
        refine E_then ?_
        refine J_ret ?_
        refine E_blk_ret ?_
        refine E_then_ret ?_
        refine E_lp_ret ?_
        refine E_blk_ret ?_
        refine E_then_ret ?_
        -- return R0
        refine E_ret1 Tryd.results80 rfl (fun w hw => ?_)
        refine ⟨?_, hw⟩
        rw [show xs.all okC = false from List.all_eq_false.2 ⟨_, getD_mem (d := 0) (show k < xs.length by omega), ?_⟩]
        rw [okC]; simp only [Bool.and_eq_true, decide_eq_true_eq]; omega
      · skip
        refine V_go (2, false) rfl ?_
        refine V_mov (.n _) rfl rfl ?_   -- 4.3
        refine V_go (2, false) rfl ?_
        refine V_gtr (.n _) rfl rfl rfl ?_   -- 4.4
        refine V_pickF (.n _) rfl rfl rfl ?_   -- 4.5
        refine V_sub [(0, _), (4, _), (5, _), (6, _), (7, _), (8, _), (16, _)] ⟨rfl, rfl, rfl, rfl, rfl, rfl, rfl, trivial⟩ ?_
        refine V_nil (.inl rfl) ?_
        refine E_then ?_
        refine J_cond rfl (fun h3 => ?_) (fun h3 => ?_)   -- C1
        · skip
          refine J_seq ?_
          refine J_region ?_
          refine V_asg (.n _) rfl rfl ?_   -- 5.0
          refine V_sub [(0, _), (2, _), (4, _), (5, _), (6, _), (7, _), (8, _), (16, _)] ⟨rfl, rfl, rfl, rfl, rfl, rfl, rfl, rfl, trivial⟩ ?_
          refine V_nil (.inl rfl) ?_
          refine E_then ?_
          refine J_ret ?_
          refine E_blk_ret ?_
          refine E_then_ret ?_
          refine E_lp_ret ?_
          refine E_blk_ret ?_
          refine E_then_ret ?_
          -- return R1
          refine E_ret1 Tryd.results80 rfl (fun w hw => ?_)
          refine ⟨?_, hw⟩
          rw [show xs.all okC = false from List.all_eq_false.2 ⟨_, getD_mem (d := 0) (show k < xs.length by omega), ?_⟩]
          rw [okC]; simp only [Bool.and_eq_true, decide_eq_true_eq]; omega
        · skip
          refine J_skip ?_
          refine E_blk ?_
          refine E_then ?_
          refine J_region ?_
          refine V_add (.n _) rfl rfl (wrap_ok (by omega)) rfl ?_   -- 6.0
          refine V_mov (.n _) rfl rfl ?_   -- 6.1
          refine V_sub [(0, _), (4, _), (5, _), (6, _), (7, _), (8, _), (16, _)] ⟨rfl, rfl, rfl, rfl, rfl, rfl, rfl, trivial⟩ ?_
          refine V_nil (.inl rfl) ?_
          -- again L0 0
          refine E_again (k + 1) ?_ ?_ ?_ (fun w h => h)
          · omega
          · refine ⟨by omega, fun j hj => ?_⟩
            by_cases e : j = k
            · subst e; rw [okC, decide_eq_true (by omega), decide_eq_true (by omega)]; rfl
            · exact hk2 j (by omega)
          · refine ⟨?_, ?_, ?_, ?_, trivial⟩ <;> first | rfl | exact int_eq (by omega) | exact int_eq (by dsimp only; omega)
    · skip
      refine J_exit ?_
      refine E_then_exit ?_
      refine E_lp_exit ?_
      refine E_blk_hit ?_
      refine E_then ?_
      refine J_seq ?_
      refine J_region ?_
      refine V_asg (.n _) rfl rfl ?_   -- 7.0
      refine V_sub [(0, _), (2, _), (5, _), (6, _), (7, _), (8, _)] ⟨rfl, rfl, rfl, rfl, rfl, rfl, trivial⟩ ?_
      refine V_nil (.inl rfl) ?_
      refine E_then ?_
      refine J_ret ?_
      -- return R2
      refine E_ret1 Tryd.results80 rfl (fun w hw => ?_)
      exact ⟨by rw [← all_not, any_all (d := 0) (fun j hj => by rw [hk2 j (by omega)]; rfl)]; rfl, hw⟩

end Go.Proofs.YtgeahmmepfmcoaaDoor
