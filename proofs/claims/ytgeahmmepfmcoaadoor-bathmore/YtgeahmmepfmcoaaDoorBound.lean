/- parts of the proofs of the bath statements -/
import Derived.Test.YtgeahmmepfmcoaaDoorAfter
import Derived.Test.YtgeahmmepfmcoaaDoorTable
namespace Go.Proofs.YtgeahmmepfmcoaaDoor
open Go Go.RowKit L
set_option linter.unusedVariables false
set_option linter.unusedSimpArgs false

theorem bool_eq {a b : Bool} (h : a = b) : some (Value.bool a) = some (Value.bool b) := by rw [h]
/-- outside the documented range -/
def out (v : Int) : Bool := decide (v < -1099511627776) || decide (v > 1099511627776)
def okAt (xs : List (List UInt8)) (ds : List Int) (p : Nat) (c : UInt8) : Bool := !(decide (0 < adv c xs p 1) && decide (ds.getD p 0 > ds.getD (p + adv c xs p 1) 0 + 1))
def rowB (xs : List (List UInt8)) (ds : List Int) (b : Bool) (p : Nat) (l : List UInt8) : Bool := l.foldl (fun a c => a && okAt xs ds p c) b
def snd_ (xs : List (List UInt8)) (ds : List Int) (b : Bool) : Nat → Bool
  | 0 => b
  | n + 1 => rowB xs ds (snd_ xs ds b n) n letters
theorem row_snoc {xs : List (List UInt8)} {ds : List Int} {b : Bool} {p j : Nat} (h : j < 8) : rowB xs ds b p (letters.take (j + 1)) = (rowB xs ds b p (letters.take j) && okAt xs ds p (letters.getD j 0)) := by
  rw [List.take_succ_eq_append_getElem (show j < letters.length from h)]
  have h' : j < letters.length := h
  have : letters[j]'h' = letters.getD j 0 := by simp [h']
  rw [this]
  simp only [rowB, List.foldl_append, List.foldl_cons, List.foldl_nil]
theorem row_bad {xs : List (List UInt8)} {ds : List Int} {b : Bool} {p j : Nat} (h : j < 8) (h1 : 0 < adv (letters.getD j 0) xs p 1) (h2 : ds.getD p 0 > ds.getD (p + adv (letters.getD j 0) xs p 1) 0 + 1) : false = rowB xs ds b p (letters.take (j + 1)) := by
  rw [row_snoc h, okAt, decide_eq_true h1, decide_eq_true h2]; simp
theorem row_ok {xs : List (List UInt8)} {ds : List Int} {b : Bool} {p j : Nat} (h : j < 8) (h1 : ¬ (0 < adv (letters.getD j 0) xs p 1 ∧ ds.getD p 0 > ds.getD (p + adv (letters.getD j 0) xs p 1) 0 + 1)) : rowB xs ds b p (letters.take j) = rowB xs ds b p (letters.take (j + 1)) := by
  rw [row_snoc h, okAt]
  have : (decide (0 < adv (letters.getD j 0) xs p 1) && decide (ds.getD p 0 > ds.getD (p + adv (letters.getD j 0) xs p 1) 0 + 1)) = false := by
    rw [Bool.and_eq_false_iff, decide_eq_false_iff_not, decide_eq_false_iff_not]
    exact Classical.not_and_iff_not_or_not.1 h1
  rw [this]; simp
theorem row_end {xs : List (List UInt8)} {ds : List Int} {b : Bool} {p j : Nat} (h : ¬ ((j : Nat) : Int) < 8) (h2 : j ≤ 8) : rowB xs ds (snd_ xs ds b p) p (letters.take j) = snd_ xs ds b (p + 1) := by
  have : j = 8 := by omega
  subst this; rfl
/-- the last position leads nowhere -/
theorem snd_last (xs : List (List UInt8)) (ds : List Int) (b : Bool) {n : Nat} (h : posN xs = n + 1) : snd_ xs ds b (n + 1) = snd_ xs ds b n := by
  have key : ∀ (l : List UInt8) (b : Bool), rowB xs ds b n l = b := by
    intro l
    induction l with
    | nil => intro b; rfl
    | cons c l ih =>
      intro b
      have := adv_lt (show n < posN xs by omega) c
      have e : ¬ 0 < adv c xs n 1 := by omega
      have : rowB xs ds b n (c :: l) = rowB xs ds (b && okAt xs ds n c) n l := rfl
      rw [this, okAt, decide_eq_false e, ih]; simp
  exact key letters _
theorem out_bd {ds : List Int} (h : ds.any out = false) (i : Nat) : -1099511627776 ≤ ds.getD i 0 ∧ ds.getD i 0 ≤ 1099511627776 := by
  by_cases hi : i < ds.length
  · have := List.any_eq_false.1 h (ds.getD i 0) (by simp [hi])
    generalize ds.getD i 0 = v at *
    simp [out] at this
    omega
  · simp [List.getD_eq_getElem?_getD, List.getElem?_eq_none (by omega : ds.length ≤ i)]
def boundOf (xs : List (List UInt8)) (ds : List Int) : Int × Bool × Int :=
  if validW xs = false then (0, false, 2) else if (ds.length : Int) ≠ posN xs then (0, false, 3) else if ds.any out = true then (0, false, 2)
  else (ds.getD 0 0, snd_ xs ds (decide (ds.getD (posN xs - 1) 0 ≤ 0)) (posN xs), 0)

theorem within1_spec (w : World) (v : Int) : Calls Tryd.prog 107 #[.int .i64 v] w fun e w' => e = .returned (.bool (out v)) ∧ St w [] w' := by
  refine calls (args := [.int .i64 v]) Tryd.func107 rfl Tryd.ntmps107 (Nat.le_of_ble_eq_true rfl) (St.refl w) ?_
  refine J_seq ?_
  refine J_region ?_
  refine V_asg (.n _) rfl rfl ?_   -- 0.0
  refine V_sub [(0, _), (2, _)] ⟨rfl, rfl, trivial⟩ ?_
  refine V_nil (.inl rfl) ?_
  refine E_then ?_
  refine J_seq ?_
  refine J_region ?_
  refine V_mov (.n _) rfl rfl ?_   -- 1.0
  refine V_lss (.n _) rfl rfl rfl ?_   -- 1.1
  refine V_mov (.n _) rfl rfl ?_   -- 1.2
  refine V_split 5 rfl (fun h1 => ?_) (fun h1 => ?_)   -- guard 1.2
  · skip
    refine V_pass (.n .p) (2, false) rfl rfl ?_   -- 1.3
    refine V_pass (.n .p) (2, false) rfl rfl ?_   -- 1.4
    refine V_pickT (.n _) rfl rfl rfl ?_   -- 1.5
    refine V_asg (.n _) rfl rfl ?_   -- 1.6
    refine V_sub [(0, _), (2, _)] ⟨rfl, rfl, trivial⟩ ?_
    refine V_nil (.inl rfl) ?_
    refine E_then ?_
    refine J_ret ?_
    -- return R0
    refine E_ret1 Tryd.results107 rfl (fun w hw => ?_)
    exact ⟨by simp [out, show v < -1099511627776 from by assumption], hw⟩
  · skip
    refine V_go (2, false) rfl ?_
    refine V_mov (.n _) rfl rfl ?_   -- 1.3
    refine V_go (2, false) rfl ?_
    refine V_gtr (.n _) rfl rfl rfl ?_   -- 1.4
    refine V_pickF (.n _) rfl rfl rfl ?_   -- 1.5
    refine V_asg (.n _) rfl rfl ?_   -- 1.6
    refine V_sub [(0, _), (2, _)] ⟨rfl, rfl, trivial⟩ ?_
    refine V_nil (.inl rfl) ?_
    refine E_then ?_
    refine J_ret ?_
    -- return R1
    refine E_ret1 Tryd.results107 rfl (fun w hw => ?_)
    exact ⟨by simp [out, show ¬ v < -1099511627776 from by assumption], hw⟩

theorem outs_index (w : World) (A : Option Addr) (c : Nat) (xs : List (Int)) (hl : xs.length ≤ 140737488351232) (hr : Rd w A (I xs)) :
    Calls Tryd.prog 121 #[.slice A xs.length c, .func (.func 107) #[] #[]] w fun e w' => ∃ i : Int, e = .returned (.int .i64 i) ∧ decide (0 ≤ i) = xs.any (out) ∧ St w [] w' := by
  refine calls (args := [.slice A xs.length c, .func (.func 107) #[] #[]]) Tryd.func121 rfl Tryd.ntmps121 (Nat.le_of_ble_eq_true rfl) (St.refl w) ?_
  refine J_seq ?_
  refine J_region ?_
  refine V_asg (.n _) rfl rfl ?_   -- 0.0
  refine V_sub [(0, _), (1, _), (4, _)] ⟨rfl, rfl, rfl, trivial⟩ ?_
  refine V_nil (.inl rfl) ?_
  refine E_then ?_
  refine J_seq ?_
  refine J_seq ?_
  refine J_region ?_
  refine V_mov (.n _) rfl rfl ?_   -- 1.0
  refine V_len (.n _) Tryd.underlying34 rfl rfl ?_   -- 1.1
  refine V_mov (.n _) rfl rfl ?_   -- 1.2
  refine V_sub [(0, _), (1, _), (4, _), (7, _), (8, _)] ⟨rfl, rfl, rfl, rfl, rfl, trivial⟩ ?_
  refine V_nil (.inl rfl) ?_
  refine E_then ?_
  refine J_block ?_
  -- loop L0
  refine J_loop (X := Int) (fun k => [(0, (.slice A xs.length c)), (1, (.func (.func 107) #[] #[])), (7, (.int .i64 ((xs.length : Nat) : Int))), (8, .int .i64 k)]) (fun k => []) (fun k => 0 ≤ k ∧ k ≤ xs.length ∧ ∀ j : Nat, (j : Int) < k → (out) (xs.getD j default) = false) (fun k => (xs.length - k).toNat) (0) (by refine ⟨?_, ?_, ?_, ?_, trivial⟩ <;> first | rfl | exact int_eq (by omega)) (fun w h => h) ?_ ?_
  · exact ⟨by omega, by omega, fun j hj => by omega⟩
  · rintro k ⟨hk0, hk1, hk2⟩
    refine J_seq ?_
    refine J_region ?_
    refine V_lss (.n _) rfl rfl rfl ?_   -- 2.0
    refine V_sub [(0, _), (1, _), (7, _), (8, _), (9, _)] ⟨rfl, rfl, rfl, rfl, rfl, trivial⟩ ?_
    refine V_nil (.inl rfl) ?_
    refine E_then ?_
    refine J_seq ?_
    refine J_cond rfl (fun h1 => ?_) (fun h1 => ?_)   -- C0
    · skip
      refine J_skip ?_
      refine E_then ?_
      refine J_seq ?_
      refine J_block ?_
      refine J_seq ?_
      refine J_region ?_
      refine V_mov (.n _) rfl rfl ?_   -- 3.0
      refine V_asg (.n _) rfl rfl ?_   -- 3.1
      refine V_sub [(0, _), (1, _), (5, _), (7, _), (8, _), (9, _)] ⟨rfl, rfl, rfl, rfl, rfl, rfl, trivial⟩ ?_
      refine V_nil (.inl rfl) ?_
      refine E_then ?_
      refine J_seq ?_
      refine J_region ?_
      refine V_mov (.n _) rfl rfl ?_   -- 4.0
      refine V_mov (.n _) rfl rfl ?_   -- 4.1
      refine V_mov (.n _) rfl rfl ?_   -- 4.2
      first | refine V_ix (.n _) Tryd.underlying34 Tryd.sizeOf3 rfl rfl (by omega) (by omega) rfl ?_ | refine V_ixz (.n _) Tryd.underlying34 Tryd.sizeOf3 rfl rfl (hr.pl (by simp)) (by omega) (by omega) rfl ?_   -- 4.3
      first | refine V_ld (.n _) Tryd.isAgg3 rfl (by repeat (first | exact List.Mem.head _ | assumption | apply List.Mem.tail)) (by rfl) rfl ?_ | refine V_ldz (.n _) Tryd.isAgg3 rfl hr (I_get0 (by omega) (by omega)) rfl ?_   -- 4.4
      refine V_callC0 (.n _) Tryd.call107 rfl (.cons rfl .nil) (fun w1 hw1 => within1_spec w1 (xs.getD k.toNat 0)) rfl trivial ?_   -- 4.5
      refine V_sub [(0, _), (1, _), (5, _), (7, _), (8, _), (9, _), (16, _)] ⟨rfl, rfl, rfl, rfl, rfl, rfl, rfl, trivial⟩ ?_
      refine V_nil (.inl rfl) ?_
      refine E_then ?_
      refine J_condB rfl (fun h2 => ?_) (fun h2 => ?_)   -- C1
      · skip
        refine J_seq ?_
        refine J_region ?_
        refine V_mov (.n _) rfl rfl ?_   -- 5.0
        refine V_asg (.n _) rfl rfl ?_   -- 5.1
        refine V_sub [(0, _), (1, _), (4, _), (5, _), (7, _), (8, _), (9, _), (16, _)] ⟨rfl, rfl, rfl, rfl, rfl, rfl, rfl, rfl, trivial⟩ ?_
        refine V_nil (.inl rfl) ?_
        refine E_then ?_
        refine J_ret ?_
        refine E_blk_ret ?_
        refine E_then_ret ?_
        refine E_lp_ret ?_
        refine E_blk_ret ?_
        refine E_then_ret ?_
        -- return R0
        refine E_ret1 Tryd.results121 rfl (fun w hw => ?_)
        exact ⟨k, rfl, any_yes hk0 h1 h2, hw⟩
      · skip
        refine J_skip ?_
        refine E_blk ?_
        refine E_then ?_
        refine J_region ?_
        refine V_add (.n _) rfl rfl (wrap_ok (by omega)) rfl ?_   -- 6.0
        refine V_mov (.n _) rfl rfl ?_   -- 6.1
        refine V_sub [(0, _), (1, _), (5, _), (7, _), (8, _), (9, _), (16, _)] ⟨rfl, rfl, rfl, rfl, rfl, rfl, rfl, trivial⟩ ?_
        refine V_nil (.inl rfl) ?_
        -- again L0 0
        refine E_again (k + 1) ?_ ?_ ?_ (fun w h => h)
        · omega
        · exact ⟨by omega, by omega, any_step (g := out) hk0 hk2 h2⟩
        · refine ⟨?_, ?_, ?_, ?_, trivial⟩ <;> first | rfl | exact int_eq (by omega) | exact int_eq (by dsimp only; omega)
    · skip
      refine J_exit ?_
      refine E_then_exit ?_
      refine E_lp_exit ?_
      refine E_blk_hit ?_
      refine E_then ?_
      refine J_seq ?_
      refine J_region ?_
      refine V_asg (.n _) rfl rfl ?_   -- 7.0
      refine V_sub [(0, _), (1, _), (4, _), (7, _), (8, _), (9, _)] ⟨rfl, rfl, rfl, rfl, rfl, rfl, trivial⟩ ?_
      refine V_nil (.inl rfl) ?_
      refine E_then ?_
      refine J_ret ?_
      -- return R1
      refine E_ret1 Tryd.results121 rfl (fun w hw => ?_)
      exact ⟨-1, rfl, any_no (by omega) hk2, hw⟩

theorem outs_any (w : World) (A : Option Addr) (c : Nat) (xs : List (Int)) (hl : xs.length ≤ 140737488351232) (hr : Rd w A (I xs)) :
    Calls Tryd.prog 106 #[.slice A xs.length c, .func (.func 107) #[] #[]] w fun e w' => e = .returned (.bool (xs.any (out))) ∧ St w [] w' := by
  refine calls (args := [.slice A xs.length c, .func (.func 107) #[] #[]]) Tryd.func106 rfl Tryd.ntmps106 (Nat.le_of_ble_eq_true rfl) (St.refl w) ?_
  refine J_seq ?_
  refine J_region ?_
  refine V_asg (.n _) rfl rfl ?_   -- 0.0
  refine V_sub [(0, _), (1, _), (4, _)] ⟨rfl, rfl, rfl, trivial⟩ ?_
  refine V_nil (.inl rfl) ?_
  refine E_then ?_
  refine J_seq ?_
  refine J_region ?_
  refine V_mov (.n _) rfl rfl ?_   -- 1.0
  refine V_mov (.n _) rfl rfl ?_   -- 1.1
  refine V_call (post := fun v D => ∃ i : Int, v = .int .i64 i ∧ decide (0 ≤ i) = xs.any (out) ∧ D = []) (.n _) Tryd.call121 (.cons rfl (.cons rfl .nil)) (fun w1 hw1 => (outs_index w1 A c xs hl (hr.keep hw1)).mono fun e w2 ⟨i, he, hi, hD⟩ => ⟨_, [], he, hD, i, rfl, hi, rfl⟩) rfl trivial ?_
  rintro v D ⟨i, rfl, hi, rfl⟩
  refine V_geq (.n _) rfl rfl rfl ?_   -- 1.3
  refine V_asg (.n _) rfl rfl ?_   -- 1.4
  refine V_sub [(0, _), (1, _), (4, _)] ⟨rfl, rfl, rfl, trivial⟩ ?_
  refine V_nil (.inl rfl) ?_
  refine E_then ?_
  refine J_ret ?_
  -- return R0
  refine E_ret1 Tryd.results106 rfl (fun w hw => ?_)
  exact ⟨by rw [← hi], hw⟩

theorem within_spec (w : World) (A : Option Addr) (c : Nat) (xs : List Int) (hl : xs.length ≤ 140737488351232) (hr : Rd w A (I xs)) : Calls Tryd.prog 62 #[.slice A xs.length c] w fun e w' => e = .returned (.bool (!xs.any out)) ∧ St w [] w' := by
  refine calls (args := [.slice A xs.length c]) Tryd.func62 rfl Tryd.ntmps62 (Nat.le_of_ble_eq_true rfl) (St.refl w) ?_
  refine J_seq ?_
  refine J_region ?_
  refine V_asg (.n _) rfl rfl ?_   -- 0.0
  refine V_sub [(0, _), (2, _)] ⟨rfl, rfl, trivial⟩ ?_
  refine V_nil (.inl rfl) ?_
  refine E_then ?_
  refine J_seq ?_
  refine J_region ?_
  refine V_mov (.n _) rfl rfl ?_   -- 1.0
  refine V_call0 (.n _) Tryd.call106 (.cons rfl (.cons rfl .nil)) (fun w1 hw1 => outs_any w1 A c xs hl (hr.keep hw1)) rfl trivial ?_   -- 1.1
  refine V_notB (.n _) rfl rfl ?_   -- 1.2
  refine V_asg (.n _) rfl rfl ?_   -- 1.3
  refine V_sub [(0, _), (2, _)] ⟨rfl, rfl, trivial⟩ ?_
  refine V_nil (.inl rfl) ?_
  refine E_then ?_
  refine J_ret ?_
  -- return R0
  refine E_ret1 Tryd.results62 rfl (fun w hw => ?_)
  exact ⟨rfl, hw⟩

theorem near_spec (w : World) (A : Option Addr) (c : Nat) (xs : List Int) (hl : xs.length ≤ 140737488351232) (hr : Rd w A (I xs)) : Calls Tryd.prog 66 #[.slice A xs.length c] w fun e w' => e = .returned (.bool (!xs.any out)) ∧ St w [] w' := by
  refine calls (args := [.slice A xs.length c]) Tryd.func66 rfl Tryd.ntmps66 (Nat.le_of_ble_eq_true rfl) (St.refl w) ?_
  refine J_seq ?_
  refine J_region ?_
  refine V_asg (.n _) rfl rfl ?_   -- 0.0
  refine V_sub [(0, _), (2, _)] ⟨rfl, rfl, trivial⟩ ?_
  refine V_nil (.inl rfl) ?_
  refine E_then ?_
  refine J_seq ?_
  refine J_seq ?_
  refine J_region ?_
  refine V_mov (.n _) rfl rfl ?_   -- 1.0
  refine V_len (.n _) Tryd.underlying34 rfl rfl ?_   -- 1.1
  refine V_mov (.n _) rfl rfl ?_   -- 1.2
  refine V_sub [(0, _), (2, _), (5, _), (6, _), (7, _)] ⟨rfl, rfl, rfl, rfl, rfl, trivial⟩ ?_
  refine V_nil (.inl rfl) ?_
  refine E_then ?_
  refine J_block ?_
  -- loop L0
  refine J_loop (X := Int) (fun k => [(0, (.slice A xs.length c)), (5, (.slice A xs.length c)), (6, (.int .i64 ((xs.length : Nat) : Int))), (7, .int .i64 k)]) (fun k => []) (fun k => 0 ≤ k ∧ k ≤ xs.length ∧ ∀ j : Nat, (j : Int) < k → out (xs.getD j default) = false) (fun k => (xs.length - k).toNat) (0) (by refine ⟨?_, ?_, ?_, ?_, trivial⟩ <;> first | rfl | exact int_eq (by omega)) (fun w h => h) ?_ ?_
  · exact ⟨by omega, by omega, fun j hj => by omega⟩
  · rintro k ⟨hk0, hk1, hk2⟩
    refine J_seq ?_
    refine J_region ?_
    refine V_lss (.n _) rfl rfl rfl ?_   -- 2.0
    refine V_sub [(0, _), (5, _), (6, _), (7, _), (8, _)] ⟨rfl, rfl, rfl, rfl, rfl, trivial⟩ ?_
    refine V_nil (.inl rfl) ?_
    refine E_then ?_
    refine J_seq ?_
    refine J_cond rfl (fun h1 => ?_) (fun h1 => ?_)   -- C0
    · skip
      refine J_skip ?_
      refine E_then ?_
      refine J_seq ?_
      refine J_block ?_
      refine J_seq ?_
      refine J_region ?_
      first | refine V_ix (.n _) Tryd.underlying34 Tryd.sizeOf3 rfl rfl (by omega) (by omega) rfl ?_ | refine V_ixz (.n _) Tryd.underlying34 Tryd.sizeOf3 rfl rfl (hr.pl (by simp)) (by omega) (by omega) rfl ?_   -- 3.0
      first | refine V_ld (.n _) Tryd.isAgg3 rfl (by repeat (first | exact List.Mem.head _ | assumption | apply List.Mem.tail)) (by rfl) rfl ?_ | refine V_ldz (.n _) Tryd.isAgg3 rfl hr (I_get0 (by omega) (by omega)) rfl ?_   -- 3.1
      refine V_asg (.n _) rfl rfl ?_   -- 3.2
      refine V_sub [(0, _), (4, _), (5, _), (6, _), (7, _), (8, _)] ⟨rfl, rfl, rfl, rfl, rfl, rfl, trivial⟩ ?_
      refine V_nil (.inl rfl) ?_
      refine E_then ?_
      refine J_seq ?_
      refine J_region ?_
      refine V_mov (.n _) rfl rfl ?_   -- 4.0
      refine V_lss (.n _) rfl rfl rfl ?_   -- 4.1
      refine V_mov (.n _) rfl rfl ?_   -- 4.2
      refine V_split 13 rfl (fun h2 => ?_) (fun h2 => ?_)   -- guard 4.2
      · skip
        refine V_pass (.n .p) (2, false) rfl rfl ?_   -- 4.3
        refine V_pass (.n .p) (2, false) rfl rfl ?_   -- 4.4
        refine V_pickT (.n _) rfl rfl rfl ?_   -- 4.5
        refine V_sub [(0, _), (4, _), (5, _), (6, _), (7, _), (8, _), (16, _)] ⟨rfl, rfl, rfl, rfl, rfl, rfl, rfl, trivial⟩ ?_
        refine V_nil (.inl rfl) ?_
        refine E_then ?_
        refine J_condT rfl ?_
        refine J_seq ?_
        refine J_region ?_
        refine V_asg (.n _) rfl rfl ?_   -- 5.0
        refine V_sub [(0, _), (2, _), (4, _), (5, _), (6, _), (7, _), (8, _), (16, _)] ⟨rfl, rfl, rfl, rfl, rfl, rfl, rfl, rfl, trivial⟩ ?_
        refine V_nil (.inl rfl) ?_
        refine E_then ?_
        refine J_ret ?_
        refine E_blk_ret ?_
        refine E_then_ret ?_
        refine E_lp_ret ?_
        refine E_blk_ret ?_
        refine E_then_ret ?_
        -- return R0
        refine E_ret1 Tryd.results66 rfl (fun w hw => ?_)
        exact ⟨by rw [← any_yes (g := out) hk0 h1 (by simp [out]; change gI xs k < _ ∨ _ < gI xs k; omega)]; simp [hk0], hw⟩
      · skip
        refine V_go (2, false) rfl ?_
        refine V_mov (.n _) rfl rfl ?_   -- 4.3
        refine V_go (2, false) rfl ?_
        refine V_gtr (.n _) rfl rfl rfl ?_   -- 4.4
        refine V_pickF (.n _) rfl rfl rfl ?_   -- 4.5
        refine V_sub [(0, _), (4, _), (5, _), (6, _), (7, _), (8, _), (16, _)] ⟨rfl, rfl, rfl, rfl, rfl, rfl, rfl, trivial⟩ ?_
        refine V_nil (.inl rfl) ?_
        refine E_then ?_
        refine J_cond rfl (fun h3 => ?_) (fun h3 => ?_)   -- C1
        · skip
          refine J_seq ?_
          refine J_region ?_
          refine V_asg (.n _) rfl rfl ?_   -- 5.0
          refine V_sub [(0, _), (2, _), (4, _), (5, _), (6, _), (7, _), (8, _), (16, _)] ⟨rfl, rfl, rfl, rfl, rfl, rfl, rfl, rfl, trivial⟩ ?_
          refine V_nil (.inl rfl) ?_
          refine E_then ?_
          refine J_ret ?_
          refine E_blk_ret ?_
          refine E_then_ret ?_
          refine E_lp_ret ?_
          refine E_blk_ret ?_
          refine E_then_ret ?_
          -- return R1
          refine E_ret1 Tryd.results66 rfl (fun w hw => ?_)
          exact ⟨by rw [← any_yes (g := out) hk0 h1 (by simp [out]; change gI xs k < _ ∨ _ < gI xs k; omega)]; simp [hk0], hw⟩
        · skip
          refine J_skip ?_
          refine E_blk ?_
          refine E_then ?_
          refine J_region ?_
          refine V_add (.n _) rfl rfl (wrap_ok (by omega)) rfl ?_   -- 6.0
          refine V_mov (.n _) rfl rfl ?_   -- 6.1
          refine V_sub [(0, _), (4, _), (5, _), (6, _), (7, _), (8, _), (16, _)] ⟨rfl, rfl, rfl, rfl, rfl, rfl, rfl, trivial⟩ ?_
          refine V_nil (.inl rfl) ?_
          -- again L0 0
          refine E_again (k + 1) ?_ ?_ ?_ (fun w h => h)
          · omega
          · exact ⟨by omega, by omega, any_step (g := out) hk0 hk2 (by simp [out]; change _ ≤ gI xs k ∧ gI xs k ≤ _; omega)⟩
          · refine ⟨?_, ?_, ?_, ?_, trivial⟩ <;> first | rfl | exact int_eq (by omega) | exact int_eq (by dsimp only; omega)
    · skip
      refine J_exit ?_
      refine E_then_exit ?_
      refine E_lp_exit ?_
      refine E_blk_hit ?_
      refine E_then ?_
      refine J_seq ?_
      refine J_region ?_
      refine V_asg (.n _) rfl rfl ?_   -- 7.0
      refine V_sub [(0, _), (2, _), (5, _), (6, _), (7, _), (8, _)] ⟨rfl, rfl, rfl, rfl, rfl, rfl, trivial⟩ ?_
      refine V_nil (.inl rfl) ?_
      refine E_then ?_
      refine J_ret ?_
      -- return R2
      refine E_ret1 Tryd.results66 rfl (fun w hw => ?_)
      exact ⟨by rw [← any_no (g := out) (k := k) (by omega) hk2]; rfl, hw⟩

theorem Bound_spec (w : World) (A A2 : Option Addr) (c c2 : Nat) (xs : List (List UInt8)) (ds : List Int) (hl : xs.length ≤ 140737488351232) (hl2 : ds.length ≤ 140737488351232) (hr : Rd w A (Ss xs)) (hd : Rd w A2 (I ds)) :
    Calls Tryd.prog 23 #[.slice A xs.length c, .slice A2 ds.length c2] w fun e w' => e = .returned (.tuple #[.int .i64 (boundOf xs ds).1, .bool (boundOf xs ds).2.1, .int .i64 (boundOf xs ds).2.2]) ∧ St w [] w' := by
  refine calls (args := [.slice A xs.length c, .slice A2 ds.length c2]) Tryd.func23 rfl Tryd.ntmps23 (Nat.le_of_ble_eq_true rfl) (St.refl w) ?_
  refine J_seq ?_
  refine J_region ?_
  refine V_asg (.n _) rfl rfl ?_   -- 0.0
  refine V_asg (.n _) rfl rfl ?_   -- 0.1
  refine V_asg (.n _) rfl rfl ?_   -- 0.2
  refine V_sub [(0, _), (1, _), (4, _), (5, _), (6, _)] ⟨rfl, rfl, rfl, rfl, rfl, trivial⟩ ?_
  refine V_nil (.inl rfl) ?_
  refine E_then ?_
  refine J_seq ?_
  refine J_block ?_
  refine J_seq ?_
  refine J_region ?_
  refine V_mov (.n _) rfl rfl ?_   -- 1.0
  refine V_call0 (.n _) Tryd.call50 (.cons rfl .nil) (fun w1 hw1 => valid_spec w1 A c xs hl (hr.keep hw1)) rfl trivial ?_   -- 1.1
  refine V_notB (.n _) rfl rfl ?_   -- 1.2
  refine V_asg (.n _) rfl rfl ?_   -- 1.3
  refine V_sub [(0, _), (1, _), (4, _), (5, _), (6, _), (14, _)] ⟨rfl, rfl, rfl, rfl, rfl, rfl, trivial⟩ ?_
  refine V_nil (.inl rfl) ?_
  refine E_then ?_
  refine J_condB rfl (fun h1 => ?_) (fun h1 => ?_)   -- C0
  · skip
    refine J_seq ?_
    refine J_region ?_
    refine V_asg (.n _) rfl rfl ?_   -- 2.0
    refine V_asg (.n _) rfl rfl ?_   -- 2.1
    refine V_asg (.n _) rfl rfl ?_   -- 2.2
    refine V_sub [(0, _), (1, _), (4, _), (5, _), (6, _), (14, _)] ⟨rfl, rfl, rfl, rfl, rfl, rfl, trivial⟩ ?_
    refine V_nil (.inl rfl) ?_
    refine E_then ?_
    refine J_ret ?_
    refine E_blk_ret ?_
    refine E_then_ret ?_
    -- return R0
    refine E_ret3 Tryd.results23 rfl rfl rfl (fun w hw => ?_)
    exact ⟨by rw [boundOf]; simp_all, hw⟩
  · have hv : validW xs = true := by simpa using h1
    obtain ⟨hv1, hv2, hv3⟩ := validW_len hv
    have hN := posN_le hv
    have hN0 := posN_pos xs
    refine J_seq ?_
    refine J_region ?_
    refine V_mov (.n _) rfl rfl ?_   -- 3.0
    refine V_len (.n _) Tryd.underlying34 rfl rfl ?_   -- 3.1
    refine V_mov (.n _) rfl rfl ?_   -- 3.2
    refine V_call0 (.n _) Tryd.call54 (.cons rfl .nil) (fun w1 hw1 => positions_spec w1 A c xs hv (hr.keep hw1)) rfl trivial ?_   -- 3.3
    refine V_neq (.n _) rfl rfl rfl ?_   -- 3.4
    refine V_asg (.n _) rfl rfl ?_   -- 3.5
    refine V_sub [(0, _), (1, _), (4, _), (5, _), (6, _), (14, _), (18, _)] ⟨rfl, rfl, rfl, rfl, rfl, rfl, rfl, trivial⟩ ?_
    refine V_nil (.inl rfl) ?_
    refine E_then ?_
    refine J_cond rfl (fun h2 => ?_) (fun h2 => ?_)   -- C1
    · skip
      refine J_seq ?_
      refine J_region ?_
      refine V_asg (.n _) rfl rfl ?_   -- 4.0
      refine V_asg (.n _) rfl rfl ?_   -- 4.1
      refine V_asg (.n _) rfl rfl ?_   -- 4.2
      refine V_sub [(0, _), (1, _), (4, _), (5, _), (6, _), (14, _), (18, _)] ⟨rfl, rfl, rfl, rfl, rfl, rfl, rfl, trivial⟩ ?_
      refine V_nil (.inl rfl) ?_
      refine E_then ?_
      refine J_ret ?_
      refine E_blk_ret ?_
      refine E_then_ret ?_
      -- return R1
      refine E_ret3 Tryd.results23 rfl rfl rfl (fun w hw => ?_)
      exact ⟨by rw [boundOf]; simp_all, hw⟩
    · have hdl : ds.length = posN xs := by omega
      refine J_seq ?_
      refine J_region ?_
      refine V_mov (.n _) rfl rfl ?_   -- 5.0
      refine V_call0 (.n _) Tryd.call62 (.cons rfl .nil) (fun w1 hw1 => within_spec w1 A2 c2 ds hl2 (hd.keep hw1)) rfl trivial ?_   -- 5.1
      refine V_notB (.n _) rfl rfl ?_   -- 5.2
      refine V_asg (.n _) rfl rfl ?_   -- 5.3
      refine V_sub [(0, _), (1, _), (4, _), (5, _), (6, _), (14, _), (18, _), (24, _)] ⟨rfl, rfl, rfl, rfl, rfl, rfl, rfl, rfl, trivial⟩ ?_
      refine V_nil (.inl rfl) ?_
      refine E_then ?_
      refine J_condB rfl (fun h3 => ?_) (fun h3 => ?_)   -- C2
      · skip
        refine J_seq ?_
        refine J_region ?_
        refine V_asg (.n _) rfl rfl ?_   -- 6.0
        refine V_asg (.n _) rfl rfl ?_   -- 6.1
        refine V_asg (.n _) rfl rfl ?_   -- 6.2
        refine V_sub [(0, _), (1, _), (4, _), (5, _), (6, _), (14, _), (18, _), (24, _)] ⟨rfl, rfl, rfl, rfl, rfl, rfl, rfl, rfl, trivial⟩ ?_
        refine V_nil (.inl rfl) ?_
        refine E_then ?_
        refine J_ret ?_
        refine E_blk_ret ?_
        refine E_then_ret ?_
        -- return R2
        refine E_ret3 Tryd.results23 rfl rfl rfl (fun w hw => ?_)
        exact ⟨by rw [boundOf]; simp_all, hw⟩
      · have hbd := out_bd (by simpa using h3)
        refine J_skip ?_
        refine E_blk ?_
        refine E_then ?_
        refine J_seq ?_
        refine J_region ?_
        refine V_mov (.n _) rfl rfl ?_   -- 7.0
        refine V_mov (.n _) rfl rfl ?_   -- 7.1
        refine V_len (.n _) Tryd.underlying34 rfl rfl ?_   -- 7.2
        refine V_sub1 (.n _) rfl rfl (wrap_ok (by omega)) rfl ?_   -- 7.3
        rw [show ((ds.length : Nat) : Int) - 1 = ((posN xs - 1 : Nat) : Int) by omega]
        refine V_ixz (.n _) Tryd.underlying34 Tryd.sizeOf3 rfl rfl (hd.pl (by simp)) (by omega) (by omega) rfl ?_
        refine V_ldz (.n _) Tryd.isAgg3 rfl hd (I_getN (xs := ds) (i := posN xs - 1) (by omega)) rfl ?_   -- 7.5
        refine V_leq (.n _) rfl rfl rfl ?_   -- 7.6
        refine V_asg (.n _) rfl rfl ?_   -- 7.7
        refine V_sub [(0, _), (1, _), (4, _), (5, _), (6, _), (7, _), (14, _), (18, _), (24, _)] ⟨rfl, rfl, rfl, rfl, rfl, rfl, rfl, rfl, rfl, trivial⟩ ?_
        refine V_nil (.inl rfl) ?_
        refine E_then ?_
        refine J_seq ?_
        refine J_seq ?_
        refine J_region ?_
        refine V_mov (.n _) rfl rfl ?_   -- 8.0
        refine V_len (.n _) Tryd.underlying34 rfl rfl ?_   -- 8.1
        refine V_mov (.n _) rfl rfl ?_   -- 8.2
        refine V_sub [(0, _), (1, _), (4, _), (5, _), (6, _), (7, _), (14, _), (18, _), (24, _), (35, _), (36, _), (37, _)] ⟨rfl, rfl, rfl, rfl, rfl, rfl, rfl, rfl, rfl, rfl, rfl, rfl, trivial⟩ ?_
        refine V_nil (.inl rfl) ?_
        refine E_then ?_
        refine J_block ?_
        -- loop L0
        refine J_loop (X := Nat) (fun p => [(0, (.slice A xs.length c)), (1, (.slice A2 ds.length c2)), (4, (.int .i64 (0))), (5, (.bool false)), (6, (.int .i64 (0))), (7, .bool (snd_ xs ds (decide (ds.getD (posN xs - 1) 0 ≤ 0)) p)), (35, (.slice A2 ds.length c2)), (36, (.int .i64 ((ds.length : Nat) : Int))), (37, .int .i64 (p : Nat))]) (fun p => []) (fun p => p ≤ posN xs) (fun p => posN xs - p) (0) (by refine ⟨?_, ?_, ?_, ?_, ?_, ?_, ?_, ?_, ?_, trivial⟩ <;> first | rfl | exact int_eq (by omega)) (fun w h => h) ?_ ?_
        · omega
        · intro p hp
          refine J_seq ?_
          refine J_region ?_
          refine V_lss (.n _) rfl rfl rfl ?_   -- 9.0
          refine V_sub [(0, _), (1, _), (4, _), (5, _), (6, _), (7, _), (35, _), (36, _), (37, _), (38, _)] ⟨rfl, rfl, rfl, rfl, rfl, rfl, rfl, rfl, rfl, rfl, trivial⟩ ?_
          refine V_nil (.inl rfl) ?_
          refine E_then ?_
          refine J_seq ?_
          refine J_cond rfl (fun h4 => ?_) (fun h4 => ?_)   -- C3
          · skip
            refine J_skip ?_
            refine E_then ?_
            refine J_seq ?_
            refine J_block ?_
            refine J_seq ?_
            refine J_region ?_
            refine V_mov (.n _) rfl rfl ?_   -- 10.0
            first | refine V_ix (.n _) Tryd.underlying34 Tryd.sizeOf3 rfl rfl (by omega) (by omega) rfl ?_ | refine V_ixz (.n _) Tryd.underlying34 Tryd.sizeOf3 rfl rfl (hd.pl (by simp)) (by omega) (by omega) rfl ?_   -- 10.1
            refine V_ldz (.n _) Tryd.isAgg3 rfl hd (I_getN (xs := ds) (i := p) (by omega)) rfl ?_   -- 10.2
            refine V_asg (.n _) rfl rfl ?_   -- 10.3
            refine V_asg (.n _) rfl rfl ?_   -- 10.4
            refine V_sub [(0, _), (1, _), (4, _), (5, _), (6, _), (7, _), (8, _), (9, _), (35, _), (36, _), (37, _), (38, _)] ⟨rfl, rfl, rfl, rfl, rfl, rfl, rfl, rfl, rfl, rfl, rfl, rfl, trivial⟩ ?_
            refine V_nil (.inl rfl) ?_
            refine E_then ?_
            refine J_seq ?_
            refine J_region ?_
            refine V_lit (.n _) Tryd.underlying76 Tryd.sizeOf5 Tryd.zeroValue5 (.cons rfl rfl rfl (.cons rfl rfl rfl (.cons rfl rfl rfl (.cons rfl rfl rfl (.cons rfl rfl rfl (.cons rfl rfl rfl (.cons rfl rfl rfl (.cons rfl rfl rfl .nil)))))))) rfl rfl rfl (fun _ => trivial) (fun b42 => ?_)   -- 11.0
            refine V_mark (.n _) Tryd.underlying76 Tryd.underlying5 rfl (by repeat (first | exact SetAt.z | apply SetAt.s)) rfl ?_   -- 11.1
            refine V_len (.n _) Tryd.underlying76 rfl rfl ?_   -- 11.2
            refine V_mov (.n _) rfl rfl ?_   -- 11.3
            refine V_sub [(0, _), (1, _), (4, _), (5, _), (6, _), (7, _), (8, _), (9, _), (35, _), (36, _), (37, _), (38, _), (43, _), (44, _), (45, _)] ⟨rfl, rfl, rfl, rfl, rfl, rfl, rfl, rfl, rfl, rfl, rfl, rfl, rfl, rfl, rfl, trivial⟩ ?_
            refine V_nil (.inl rfl) ?_
            refine E_then ?_
            refine J_block ?_
            -- loop L1
            refine J_loop (X := Nat) (fun j => [(0, (.slice A xs.length c)), (1, (.slice A2 ds.length c2)), (4, (.int .i64 (0))), (5, (.bool false)), (6, (.int .i64 (0))), (7, .bool (rowB xs ds (snd_ xs ds (decide (ds.getD (posN xs - 1) 0 ≤ 0)) p) p (letters.take j))), (8, .int .i64 (p : Nat)), (9, .int .i64 (ds.getD p 0)), (35, (.slice A2 ds.length c2)), (36, (.int .i64 ((ds.length : Nat) : Int))), (37, .int .i64 (p : Nat)), (43, (.slice (some ⟨b42, 0, none⟩) 8 8)), (44, .int .i64 8), (45, .int .i64 (j : Nat))]) (fun j => [.f b42 5 (By letters) (8, 9)]) (fun j => j ≤ 8) (fun j => 8 - j) (0) (by refine ⟨?_, ?_, ?_, ?_, ?_, ?_, ?_, ?_, ?_, ?_, ?_, ?_, ?_, ?_, trivial⟩ <;> first | rfl | exact int_eq (by omega)) (fun w h => h) ?_ ?_
            · omega
            · intro j hj
              refine J_seq ?_
              refine J_region ?_
              refine V_lss (.n _) rfl rfl rfl ?_   -- 12.0
              refine V_sub [(0, _), (1, _), (4, _), (5, _), (6, _), (7, _), (8, _), (9, _), (35, _), (36, _), (37, _), (43, _), (44, _), (45, _), (46, _)] ⟨rfl, rfl, rfl, rfl, rfl, rfl, rfl, rfl, rfl, rfl, rfl, rfl, rfl, rfl, rfl, trivial⟩ ?_
              refine V_nil (.inl rfl) ?_
              refine E_then ?_
              refine J_seq ?_
              refine J_cond rfl (fun h5 => ?_) (fun h5 => ?_)   -- C4
              · skip
                refine J_skip ?_
                refine E_then ?_
                refine J_seq ?_
                refine J_block ?_
                refine J_seq ?_
                refine J_region ?_
                first | refine V_ix (.n _) Tryd.underlying76 Tryd.sizeOf5 rfl rfl (by omega) (by omega) rfl ?_ | refine V_ixz (.n _) Tryd.underlying76 Tryd.sizeOf5 rfl rfl (hd.pl (by simp)) (by omega) (by omega) rfl ?_   -- 13.0
                refine V_ldf (.n _) Tryd.isAgg5 rfl (by repeat (first | exact List.Mem.head _ | assumption | apply List.Mem.tail)) (By_getN (xs := letters) (by show j < 8; omega)) rfl ?_   -- 13.1
                refine V_asg (.n _) rfl rfl ?_   -- 13.2
                refine V_sub [(0, _), (1, _), (4, _), (5, _), (6, _), (7, _), (8, _), (9, _), (11, _), (35, _), (36, _), (37, _), (43, _), (44, _), (45, _), (46, _)] ⟨rfl, rfl, rfl, rfl, rfl, rfl, rfl, rfl, rfl, rfl, rfl, rfl, rfl, rfl, rfl, rfl, trivial⟩ ?_
                refine V_nil (.inl rfl) ?_
                refine E_then ?_
                refine J_seq ?_
                refine J_region ?_
                refine V_mov (.n _) rfl rfl ?_   -- 14.0
                refine V_mov (.n _) rfl rfl ?_   -- 14.1
                refine V_mov (.n _) rfl rfl ?_   -- 14.2
                refine V_call0 (.n _) Tryd.call52 (.cons rfl (.cons rfl (.cons rfl .nil))) (fun w1 hw1 => after_spec w1 A c xs p (letters.getD j 0) hv (by omega) (hr.keep hw1)) rfl trivial ?_   -- 14.3
                have hal := adv_lt (show p < posN xs by omega) (letters.getD j 0)
                have hb1 := hbd (p + adv (letters.getD j 0) xs p 1)
                refine V_mov (.n _) rfl rfl ?_   -- 14.4
                refine V_ext (.n _) rfl rfl rfl ?_   -- 14.5
                refine V_ext (.n _) rfl rfl rfl ?_   -- 14.6
                refine V_asg (.n _) rfl rfl ?_   -- 14.7
                refine V_asg (.n _) rfl rfl ?_   -- 14.8
                refine V_sub [(0, _), (1, _), (4, _), (5, _), (6, _), (7, _), (8, _), (9, _), (11, _), (12, _), (13, _), (35, _), (36, _), (37, _), (43, _), (44, _), (45, _), (46, _)] ⟨rfl, rfl, rfl, rfl, rfl, rfl, rfl, rfl, rfl, rfl, rfl, rfl, rfl, rfl, rfl, rfl, rfl, rfl, trivial⟩ ?_
                refine V_nil (.inl rfl) ?_
                refine E_then ?_
                refine J_seq ?_
                refine J_region ?_
                refine V_mov (.n _) rfl rfl ?_   -- 15.0
                refine V_mov (.n _) rfl rfl ?_   -- 15.1
                refine V_split 57 rfl (fun h6 => ?_) (fun h6 => ?_)   -- guard 15.1
                · skip
                  refine V_go (1, true) rfl ?_
                  refine V_mov (.n _) rfl rfl ?_   -- 15.2
                  refine V_go (1, true) rfl ?_
                  refine V_mov (.n _) rfl rfl ?_   -- 15.3
                  refine V_go (1, true) rfl ?_
                  refine V_mov (.n _) rfl rfl ?_   -- 15.4
                  refine V_go (1, true) rfl ?_
                  first | refine V_ix (.n _) Tryd.underlying34 Tryd.sizeOf3 rfl rfl (by omega) (by omega) rfl ?_ | refine V_ixz (.n _) Tryd.underlying34 Tryd.sizeOf3 rfl rfl (hd.pl (by simp)) (by omega) (by omega) rfl ?_   -- 15.5
                  refine V_go (1, true) rfl ?_
                  refine V_ldz (.n _) Tryd.isAgg3 rfl hd (I_getN (xs := ds) (i := p + adv (letters.getD j 0) xs p 1) (by omega)) rfl ?_   -- 15.6
                  refine V_go (1, true) rfl ?_
                  refine V_add (.n _) rfl rfl (wrap_ok (by omega)) rfl ?_   -- 15.7
                  refine V_go (1, true) rfl ?_
                  refine V_gtr (.n _) rfl rfl rfl ?_   -- 15.8
                  refine V_pickT (.n _) rfl rfl rfl ?_   -- 15.9
                  refine V_sub [(0, _), (1, _), (4, _), (5, _), (6, _), (7, _), (8, _), (9, _), (11, _), (12, _), (13, _), (35, _), (36, _), (37, _), (43, _), (44, _), (45, _), (46, _), (65, _)] ⟨rfl, rfl, rfl, rfl, rfl, rfl, rfl, rfl, rfl, rfl, rfl, rfl, rfl, rfl, rfl, rfl, rfl, rfl, rfl, trivial⟩ ?_
                  refine V_nil (.inl rfl) ?_
                  refine E_then ?_
                  refine J_cond rfl (fun h7 => ?_) (fun h7 => ?_)   -- C5
                  · skip
                    refine J_region ?_
                    refine V_asg (.n _) rfl rfl ?_   -- 16.0
                    refine V_sub [(0, _), (1, _), (4, _), (5, _), (6, _), (7, _), (8, _), (9, _), (11, _), (12, _), (13, _), (35, _), (36, _), (37, _), (43, _), (44, _), (45, _), (46, _), (65, _)] ⟨rfl, rfl, rfl, rfl, rfl, rfl, rfl, rfl, rfl, rfl, rfl, rfl, rfl, rfl, rfl, rfl, rfl, rfl, rfl, trivial⟩ ?_
                    refine V_nil (.inl rfl) ?_
                    refine E_blk ?_
                    refine E_then ?_
                    refine J_region ?_
                    refine V_add (.n _) rfl rfl (wrap_ok (by omega)) rfl ?_   -- 17.0
                    refine V_mov (.n _) rfl rfl ?_   -- 17.1
                    refine V_sub [(0, _), (1, _), (4, _), (5, _), (6, _), (7, _), (8, _), (9, _), (11, _), (12, _), (13, _), (35, _), (36, _), (37, _), (43, _), (44, _), (45, _), (46, _), (65, _)] ⟨rfl, rfl, rfl, rfl, rfl, rfl, rfl, rfl, rfl, rfl, rfl, rfl, rfl, rfl, rfl, rfl, rfl, rfl, rfl, trivial⟩ ?_
                    refine V_nil (.inl rfl) ?_
                    -- again L1 0
                    refine E_again (j + 1) ?_ ?_ ?_ (fun w h => h)
                    · omega
                    · omega
                    · refine ⟨?_, ?_, ?_, ?_, ?_, ?_, ?_, ?_, ?_, ?_, ?_, ?_, ?_, ?_, trivial⟩ <;> first | rfl | exact int_eq (by omega) | exact int_eq (by dsimp only; omega) | exact bool_eq (row_bad (xs := xs) (ds := ds) (p := p) (j := j) (by omega) (by assumption) (by assumption)) | exact bool_eq (row_ok (xs := xs) (ds := ds) (p := p) (j := j) (by omega) (fun hh => by first | exact absurd hh.1 (by assumption) | exact absurd hh.2 (by assumption)))
                  · skip
                    refine J_skip ?_
                    refine E_blk ?_
                    refine E_then ?_
                    refine J_region ?_
                    refine V_add (.n _) rfl rfl (wrap_ok (by omega)) rfl ?_   -- 17.0
                    refine V_mov (.n _) rfl rfl ?_   -- 17.1
                    refine V_sub [(0, _), (1, _), (4, _), (5, _), (6, _), (7, _), (8, _), (9, _), (11, _), (12, _), (13, _), (35, _), (36, _), (37, _), (43, _), (44, _), (45, _), (46, _), (65, _)] ⟨rfl, rfl, rfl, rfl, rfl, rfl, rfl, rfl, rfl, rfl, rfl, rfl, rfl, rfl, rfl, rfl, rfl, rfl, rfl, trivial⟩ ?_
                    refine V_nil (.inl rfl) ?_
                    -- again L1 1
                    refine E_again (j + 1) ?_ ?_ ?_ (fun w h => h)
                    · omega
                    · omega
                    · refine ⟨?_, ?_, ?_, ?_, ?_, ?_, ?_, ?_, ?_, ?_, ?_, ?_, ?_, ?_, trivial⟩ <;> first | rfl | exact int_eq (by omega) | exact int_eq (by dsimp only; omega) | exact bool_eq (row_bad (xs := xs) (ds := ds) (p := p) (j := j) (by omega) (by assumption) (by assumption)) | exact bool_eq (row_ok (xs := xs) (ds := ds) (p := p) (j := j) (by omega) (fun hh => by first | exact absurd hh.1 (by assumption) | exact absurd hh.2 (by assumption)))
                · skip
                  refine V_pass (.n .p) (1, true) rfl rfl ?_   -- 15.2
                  refine V_pass (.n .p) (1, true) rfl rfl ?_   -- 15.3
                  refine V_pass (.n .p) (1, true) rfl rfl ?_   -- 15.4
                  refine V_pass (.n .p) (1, true) rfl rfl ?_   -- 15.5
                  refine V_pass (.n .p) (1, true) rfl rfl ?_   -- 15.6
                  refine V_pass (.n .p) (1, true) rfl rfl ?_   -- 15.7
                  refine V_pass (.n .p) (1, true) rfl rfl ?_   -- 15.8
                  refine V_pickF (.n _) rfl rfl rfl ?_   -- 15.9
                  refine V_sub [(0, _), (1, _), (4, _), (5, _), (6, _), (7, _), (8, _), (9, _), (11, _), (12, _), (13, _), (35, _), (36, _), (37, _), (43, _), (44, _), (45, _), (46, _), (65, _)] ⟨rfl, rfl, rfl, rfl, rfl, rfl, rfl, rfl, rfl, rfl, rfl, rfl, rfl, rfl, rfl, rfl, rfl, rfl, rfl, trivial⟩ ?_
                  refine V_nil (.inl rfl) ?_
                  refine E_then ?_
                  refine J_condF rfl ?_
                  refine J_skip ?_
                  refine E_blk ?_
                  refine E_then ?_
                  refine J_region ?_
                  refine V_add (.n _) rfl rfl (wrap_ok (by omega)) rfl ?_   -- 17.0
                  refine V_mov (.n _) rfl rfl ?_   -- 17.1
                  refine V_sub [(0, _), (1, _), (4, _), (5, _), (6, _), (7, _), (8, _), (9, _), (11, _), (12, _), (13, _), (35, _), (36, _), (37, _), (43, _), (44, _), (45, _), (46, _), (65, _)] ⟨rfl, rfl, rfl, rfl, rfl, rfl, rfl, rfl, rfl, rfl, rfl, rfl, rfl, rfl, rfl, rfl, rfl, rfl, rfl, trivial⟩ ?_
                  refine V_nil (.inl rfl) ?_
                  -- again L1 2
                  refine E_again (j + 1) ?_ ?_ ?_ (fun w h => h)
                  · omega
                  · omega
                  · refine ⟨?_, ?_, ?_, ?_, ?_, ?_, ?_, ?_, ?_, ?_, ?_, ?_, ?_, ?_, trivial⟩ <;> first | rfl | exact int_eq (by omega) | exact int_eq (by dsimp only; omega) | exact bool_eq (row_bad (xs := xs) (ds := ds) (p := p) (j := j) (by omega) (by assumption) (by assumption)) | exact bool_eq (row_ok (xs := xs) (ds := ds) (p := p) (j := j) (by omega) (fun hh => by first | exact absurd hh.1 (by assumption) | exact absurd hh.2 (by assumption)))
              · skip
                refine J_exit ?_
                refine E_then_exit ?_
                refine E_lp_exit ?_
                refine E_blk_hit ?_
                refine E_blk ?_
                refine E_then ?_
                refine J_region ?_
                refine V_add (.n _) rfl rfl (wrap_ok (by omega)) rfl ?_   -- 18.0
                refine V_mov (.n _) rfl rfl ?_   -- 18.1
                refine V_sub [(0, _), (1, _), (4, _), (5, _), (6, _), (7, _), (8, _), (9, _), (35, _), (36, _), (37, _), (43, _), (44, _), (45, _), (46, _)] ⟨rfl, rfl, rfl, rfl, rfl, rfl, rfl, rfl, rfl, rfl, rfl, rfl, rfl, rfl, rfl, trivial⟩ ?_
                refine V_nil (.inl rfl) ?_
                -- again L0 0
                refine E_again (p + 1) ?_ ?_ ?_ (fun w h => h.sublist (by simp))
                · omega
                · omega
                · refine ⟨?_, ?_, ?_, ?_, ?_, ?_, ?_, ?_, ?_, trivial⟩ <;> first | rfl | exact int_eq (by omega) | exact int_eq (by dsimp only; omega) | exact bool_eq (row_end (by assumption) (by assumption))
          · skip
            refine J_exit ?_
            refine E_then_exit ?_
            refine E_lp_exit ?_
            refine E_blk_hit ?_
            refine E_then ?_
            refine J_seq ?_
            refine J_region ?_
            refine V_mov (.n _) rfl rfl ?_   -- 19.0
            first | refine V_ix (.n _) Tryd.underlying34 Tryd.sizeOf3 rfl rfl (by omega) (by omega) rfl ?_ | refine V_ixz (.n _) Tryd.underlying34 Tryd.sizeOf3 rfl rfl (hd.pl (by simp)) (by omega) (by omega) rfl ?_   -- 19.1
            refine V_ldz (.n _) Tryd.isAgg3 rfl hd (I_getN (xs := ds) (i := 0) (by omega)) rfl ?_   -- 19.2
            refine V_mov (.n _) rfl rfl ?_   -- 19.3
            refine V_asg (.n _) rfl rfl ?_   -- 19.4
            refine V_asg (.n _) rfl rfl ?_   -- 19.5
            refine V_asg (.n _) rfl rfl ?_   -- 19.6
            refine V_sub [(0, _), (1, _), (4, _), (5, _), (6, _), (7, _), (35, _), (36, _), (37, _), (38, _)] ⟨rfl, rfl, rfl, rfl, rfl, rfl, rfl, rfl, rfl, rfl, trivial⟩ ?_
            refine V_nil (.inl rfl) ?_
            refine E_then ?_
            refine J_ret ?_
            -- return R3
            refine E_ret3 Tryd.results23 rfl rfl rfl (fun w hw => ?_)
            obtain rfl : p = posN xs := by omega
            refine ⟨?_, hw⟩
            rw [boundOf, if_neg (by simp [hv]), if_neg (by omega), if_neg (by simpa using h3)]

theorem RefBound_spec (w : World) (A A2 : Option Addr) (c c2 : Nat) (xs : List (List UInt8)) (ds : List Int) (hl : xs.length ≤ 140737488351232) (hl2 : ds.length ≤ 140737488351232) (hr : Rd w A (Ss xs)) (hd : Rd w A2 (I ds)) :
    Calls Tryd.prog 26 #[.slice A xs.length c, .slice A2 ds.length c2] w fun e w' => e = .returned (.tuple #[.int .i64 (boundOf xs ds).1, .bool (boundOf xs ds).2.1, .int .i64 (boundOf xs ds).2.2]) ∧ St w [] w' := by
  refine calls (args := [.slice A xs.length c, .slice A2 ds.length c2]) Tryd.func26 rfl Tryd.ntmps26 (Nat.le_of_ble_eq_true rfl) (St.refl w) ?_
  refine J_seq ?_
  refine J_region ?_
  refine V_asg (.n _) rfl rfl ?_   -- 0.0
  refine V_asg (.n _) rfl rfl ?_   -- 0.1
  refine V_asg (.n _) rfl rfl ?_   -- 0.2
  refine V_sub [(0, _), (1, _), (4, _), (5, _), (6, _)] ⟨rfl, rfl, rfl, rfl, rfl, trivial⟩ ?_
  refine V_nil (.inl rfl) ?_
  refine E_then ?_
  refine J_seq ?_
  refine J_block ?_
  refine J_seq ?_
  refine J_region ?_
  refine V_mov (.n _) rfl rfl ?_   -- 1.0
  refine V_call0 (.n _) Tryd.call63 (.cons rfl .nil) (fun w1 hw1 => Words_spec w1 A c xs hl (hr.keep hw1)) rfl trivial ?_   -- 1.1
  refine V_notB (.n _) rfl rfl ?_   -- 1.2
  refine V_asg (.n _) rfl rfl ?_   -- 1.3
  refine V_sub [(0, _), (1, _), (4, _), (5, _), (6, _), (12, _)] ⟨rfl, rfl, rfl, rfl, rfl, rfl, trivial⟩ ?_
  refine V_nil (.inl rfl) ?_
  refine E_then ?_
  refine J_condB rfl (fun h1 => ?_) (fun h1 => ?_)   -- C0
  · skip
    refine J_seq ?_
    refine J_region ?_
    refine V_asg (.n _) rfl rfl ?_   -- 2.0
    refine V_asg (.n _) rfl rfl ?_   -- 2.1
    refine V_asg (.n _) rfl rfl ?_   -- 2.2
    refine V_sub [(0, _), (1, _), (4, _), (5, _), (6, _), (12, _)] ⟨rfl, rfl, rfl, rfl, rfl, rfl, trivial⟩ ?_
    refine V_nil (.inl rfl) ?_
    refine E_then ?_
    refine J_ret ?_
    refine E_blk_ret ?_
    refine E_then_ret ?_
    -- return R0
    refine E_ret3 Tryd.results26 rfl rfl rfl (fun w hw => ?_)
    exact ⟨by rw [boundOf]; simp_all, hw⟩
  · have hv : validW xs = true := by simpa using h1
    obtain ⟨hv1, hv2, hv3⟩ := validW_len hv
    have hN := posN_le hv
    have hN0 := posN_pos xs
    refine J_seq ?_
    refine J_region ?_
    refine V_mov (.n _) rfl rfl ?_   -- 3.0
    refine V_len (.n _) Tryd.underlying34 rfl rfl ?_   -- 3.1
    refine V_mov (.n _) rfl rfl ?_   -- 3.2
    refine V_call0 (.n _) Tryd.call65 (.cons rfl .nil) (fun w1 hw1 => size_spec w1 A c xs hv (hr.keep hw1)) rfl trivial ?_   -- 3.3
    refine V_neq (.n _) rfl rfl rfl ?_   -- 3.4
    refine V_asg (.n _) rfl rfl ?_   -- 3.5
    refine V_sub [(0, _), (1, _), (4, _), (5, _), (6, _), (12, _), (16, _)] ⟨rfl, rfl, rfl, rfl, rfl, rfl, rfl, trivial⟩ ?_
    refine V_nil (.inl rfl) ?_
    refine E_then ?_
    refine J_cond rfl (fun h2 => ?_) (fun h2 => ?_)   -- C1
    · skip
      refine J_seq ?_
      refine J_region ?_
      refine V_asg (.n _) rfl rfl ?_   -- 4.0
      refine V_asg (.n _) rfl rfl ?_   -- 4.1
      refine V_asg (.n _) rfl rfl ?_   -- 4.2
      refine V_sub [(0, _), (1, _), (4, _), (5, _), (6, _), (12, _), (16, _)] ⟨rfl, rfl, rfl, rfl, rfl, rfl, rfl, trivial⟩ ?_
      refine V_nil (.inl rfl) ?_
      refine E_then ?_
      refine J_ret ?_
      refine E_blk_ret ?_
      refine E_then_ret ?_
      -- return R1
      refine E_ret3 Tryd.results26 rfl rfl rfl (fun w hw => ?_)
      exact ⟨by rw [boundOf]; simp_all, hw⟩
    · have hdl : ds.length = posN xs := by omega
      refine J_seq ?_
      refine J_region ?_
      refine V_mov (.n _) rfl rfl ?_   -- 5.0
      refine V_call0 (.n _) Tryd.call66 (.cons rfl .nil) (fun w1 hw1 => near_spec w1 A2 c2 ds hl2 (hd.keep hw1)) rfl trivial ?_   -- 5.1
      refine V_notB (.n _) rfl rfl ?_   -- 5.2
      refine V_asg (.n _) rfl rfl ?_   -- 5.3
      refine V_sub [(0, _), (1, _), (4, _), (5, _), (6, _), (12, _), (16, _), (22, _)] ⟨rfl, rfl, rfl, rfl, rfl, rfl, rfl, rfl, trivial⟩ ?_
      refine V_nil (.inl rfl) ?_
      refine E_then ?_
      refine J_condB rfl (fun h3 => ?_) (fun h3 => ?_)   -- C2
      · skip
        refine J_seq ?_
        refine J_region ?_
        refine V_asg (.n _) rfl rfl ?_   -- 6.0
        refine V_asg (.n _) rfl rfl ?_   -- 6.1
        refine V_asg (.n _) rfl rfl ?_   -- 6.2
        refine V_sub [(0, _), (1, _), (4, _), (5, _), (6, _), (12, _), (16, _), (22, _)] ⟨rfl, rfl, rfl, rfl, rfl, rfl, rfl, rfl, trivial⟩ ?_
        refine V_nil (.inl rfl) ?_
        refine E_then ?_
        refine J_ret ?_
        refine E_blk_ret ?_
        refine E_then_ret ?_
        -- return R2
        refine E_ret3 Tryd.results26 rfl rfl rfl (fun w hw => ?_)
        exact ⟨by rw [boundOf]; simp_all, hw⟩
      · have hbd := out_bd (by simpa using h3)
        refine J_skip ?_
        refine E_blk ?_
        refine E_then ?_
        refine J_seq ?_
        refine J_region ?_
        refine V_mov (.n _) rfl rfl ?_   -- 7.0
        refine V_mov (.n _) rfl rfl ?_   -- 7.1
        refine V_len (.n _) Tryd.underlying34 rfl rfl ?_   -- 7.2
        refine V_sub1 (.n _) rfl rfl (wrap_ok (by omega)) rfl ?_   -- 7.3
        rw [show ((ds.length : Nat) : Int) - 1 = ((posN xs - 1 : Nat) : Int) by omega]
        refine V_ixz (.n _) Tryd.underlying34 Tryd.sizeOf3 rfl rfl (hd.pl (by simp)) (by omega) (by omega) rfl ?_
        refine V_ldz (.n _) Tryd.isAgg3 rfl hd (I_getN (xs := ds) (i := posN xs - 1) (by omega)) rfl ?_   -- 7.5
        refine V_leq (.n _) rfl rfl rfl ?_   -- 7.6
        refine V_asg (.n _) rfl rfl ?_   -- 7.7
        refine V_sub [(0, _), (1, _), (4, _), (5, _), (6, _), (7, _), (12, _), (16, _), (22, _)] ⟨rfl, rfl, rfl, rfl, rfl, rfl, rfl, rfl, rfl, trivial⟩ ?_
        refine V_nil (.inl rfl) ?_
        refine E_then ?_
        refine J_seq ?_
        refine J_seq ?_
        refine J_region ?_
        refine V_mov (.n _) rfl rfl ?_   -- 8.0
        refine V_len (.n _) Tryd.underlying34 rfl rfl ?_   -- 8.1
        refine V_sub1 (.n _) rfl rfl (wrap_ok (by omega)) rfl ?_   -- 8.2
        refine V_mov (.n _) rfl rfl ?_   -- 8.3
        refine V_sub [(0, _), (1, _), (4, _), (5, _), (6, _), (7, _), (12, _), (16, _), (22, _), (35, _), (36, _)] ⟨rfl, rfl, rfl, rfl, rfl, rfl, rfl, rfl, rfl, rfl, rfl, trivial⟩ ?_
        refine V_nil (.inl rfl) ?_
        refine E_then ?_
        refine J_block ?_
        -- loop L0
        refine J_loop (X := Nat) (fun p => [(0, (.slice A xs.length c)), (1, (.slice A2 ds.length c2)), (4, (.int .i64 (0))), (5, (.bool false)), (6, (.int .i64 (0))), (7, .bool (snd_ xs ds (decide (ds.getD (posN xs - 1) 0 ≤ 0)) p)), (35, (.int .i64 (((ds.length : Nat) : Int) - 1))), (36, .int .i64 (p : Nat))]) (fun p => []) (fun p => p ≤ posN xs - 1) (fun p => posN xs - p) (0) (by refine ⟨?_, ?_, ?_, ?_, ?_, ?_, ?_, ?_, trivial⟩ <;> first | rfl | exact int_eq (by omega)) (fun w h => h) ?_ ?_
        · omega
        · intro p hp
          refine J_seq ?_
          refine J_region ?_
          refine V_lss (.n _) rfl rfl rfl ?_   -- 9.0
          refine V_sub [(0, _), (1, _), (4, _), (5, _), (6, _), (7, _), (35, _), (36, _), (37, _)] ⟨rfl, rfl, rfl, rfl, rfl, rfl, rfl, rfl, rfl, trivial⟩ ?_
          refine V_nil (.inl rfl) ?_
          refine E_then ?_
          refine J_seq ?_
          refine J_cond rfl (fun h4 => ?_) (fun h4 => ?_)   -- C3
          · skip
            refine J_skip ?_
            refine E_then ?_
            refine J_seq ?_
            refine J_block ?_
            refine J_seq ?_
            refine J_region ?_
            refine V_mov (.n _) rfl rfl ?_   -- 10.0
            refine V_asg (.n _) rfl rfl ?_   -- 10.1
            refine V_sub [(0, _), (1, _), (4, _), (5, _), (6, _), (7, _), (8, _), (35, _), (36, _), (37, _)] ⟨rfl, rfl, rfl, rfl, rfl, rfl, rfl, rfl, rfl, rfl, trivial⟩ ?_
            refine V_nil (.inl rfl) ?_
            refine E_then ?_
            refine J_seq ?_
            refine J_region ?_
            refine V_mov (.n _) rfl rfl ?_   -- 11.0
            refine V_sub [(0, _), (1, _), (4, _), (5, _), (6, _), (7, _), (8, _), (35, _), (36, _), (37, _), (39, _)] ⟨rfl, rfl, rfl, rfl, rfl, rfl, rfl, rfl, rfl, rfl, rfl, trivial⟩ ?_
            refine V_nil (.inl rfl) ?_
            refine E_then ?_
            refine J_block ?_
            -- loop L1
            refine J_loop (X := Nat) (fun j => [(0, (.slice A xs.length c)), (1, (.slice A2 ds.length c2)), (4, (.int .i64 (0))), (5, (.bool false)), (6, (.int .i64 (0))), (7, .bool (rowB xs ds (snd_ xs ds (decide (ds.getD (posN xs - 1) 0 ≤ 0)) p) p (letters.take j))), (8, .int .i64 (p : Nat)), (35, (.int .i64 (((ds.length : Nat) : Int) - 1))), (36, .int .i64 (p : Nat)), (39, .int .i64 (j : Nat))]) (fun j => []) (fun j => j ≤ 8) (fun j => 8 - j) (0) (by refine ⟨?_, ?_, ?_, ?_, ?_, ?_, ?_, ?_, ?_, ?_, trivial⟩ <;> first | rfl | exact int_eq (by omega)) (fun w h => h) ?_ ?_
            · omega
            · intro j hj
              refine J_seq ?_
              refine J_region ?_
              refine V_lss (.n _) rfl rfl rfl ?_   -- 12.0
              refine V_sub [(0, _), (1, _), (4, _), (5, _), (6, _), (7, _), (8, _), (35, _), (36, _), (39, _), (40, _)] ⟨rfl, rfl, rfl, rfl, rfl, rfl, rfl, rfl, rfl, rfl, rfl, trivial⟩ ?_
              refine V_nil (.inl rfl) ?_
              refine E_then ?_
              refine J_seq ?_
              refine J_cond rfl (fun h5 => ?_) (fun h5 => ?_)   -- C4
              · skip
                refine J_skip ?_
                refine E_then ?_
                refine J_seq ?_
                refine J_block ?_
                refine J_seq ?_
                refine J_region ?_
                refine V_mov (.n _) rfl rfl ?_   -- 13.0
                refine V_asg (.n _) rfl rfl ?_   -- 13.1
                refine V_sub [(0, _), (1, _), (4, _), (5, _), (6, _), (7, _), (8, _), (9, _), (35, _), (36, _), (39, _), (40, _)] ⟨rfl, rfl, rfl, rfl, rfl, rfl, rfl, rfl, rfl, rfl, rfl, rfl, trivial⟩ ?_
                refine V_nil (.inl rfl) ?_
                refine E_then ?_
                refine J_seq ?_
                refine J_region ?_
                refine V_mov (.n _) rfl rfl ?_   -- 14.0
                refine V_mov (.n _) rfl rfl ?_   -- 14.1
                refine V_mov (.n _) rfl rfl ?_   -- 14.2
                refine V_sidx (p := letters) (.n _) Tryd.underlying9 rfl rfl (by omega) (by show ((j : Nat) : Int) < 8; omega) rfl ?_   -- 14.3
                rw [show letters.getD ((j : Nat) : Int).toNat 0 = letters.getD j 0 by simp]
                refine V_call0 (.n _) Tryd.call67 (.cons rfl (.cons rfl (.cons rfl .nil))) (fun w1 hw1 => moved_spec w1 A c xs p (letters.getD j 0) hv (by omega) (hr.keep hw1)) rfl trivial ?_   -- 14.4
                have hal := adv_lt (show p < posN xs by omega) (letters.getD j 0)
                have hb1 := hbd (p + adv (letters.getD j 0) xs p 1)
                refine V_mov (.n _) rfl rfl ?_   -- 14.5
                refine V_ext (.n _) rfl rfl rfl ?_   -- 14.6
                refine V_ext (.n _) rfl rfl rfl ?_   -- 14.7
                refine V_asg (.n _) rfl rfl ?_   -- 14.8
                refine V_asg (.n _) rfl rfl ?_   -- 14.9
                refine V_sub [(0, _), (1, _), (4, _), (5, _), (6, _), (7, _), (8, _), (9, _), (10, _), (11, _), (35, _), (36, _), (39, _), (40, _)] ⟨rfl, rfl, rfl, rfl, rfl, rfl, rfl, rfl, rfl, rfl, rfl, rfl, rfl, rfl, trivial⟩ ?_
                refine V_nil (.inl rfl) ?_
                refine E_then ?_
                refine J_seq ?_
                refine J_draw (Gs := _) (cl := [.p, .p, .p, .p, .p, .r, .p, .p, .p, .r, .p, .p, .p]) (by kernel_rfl) (fun _ _ h => h) ?_
                refine V_mov (.s _ _ _) rfl rfl ?_   -- 15.0
                refine V_mov (.s _ _ _) rfl rfl ?_   -- 15.1
                refine V_split 51 rfl (fun h6 => ?_) (fun h6 => ?_)   -- guard 15.1
                · skip
                  refine V_go (1, true) rfl ?_
                  refine V_mov (.s _ _ _) rfl rfl ?_   -- 15.2
                  refine V_go (1, true) rfl ?_
                  refine V_mov (.s _ _ _) rfl rfl ?_   -- 15.3
                  refine V_go (1, true) rfl ?_
                  first | refine V_ix (.s _ _ _) Tryd.underlying34 Tryd.sizeOf3 rfl rfl (by omega) (by omega) rfl ?_ | refine V_ixz (.s _ _ _) Tryd.underlying34 Tryd.sizeOf3 rfl rfl (hd.pl (by simp)) (by omega) (by omega) rfl ?_   -- 15.4
                  refine V_go (1, true) rfl ?_
                  refine V_ldz (.s _ _ _) Tryd.isAgg3 rfl hd (I_getN (xs := ds) (i := p) (by omega)) rfl ?_   -- 15.5
                  refine V_go (1, true) rfl ?_
                  refine V_mov (.s _ _ _) rfl rfl ?_   -- 15.6
                  refine V_go (1, true) rfl ?_
                  refine V_mov (.s _ _ _) rfl rfl ?_   -- 15.7
                  refine V_go (1, true) rfl ?_
                  first | refine V_ix (.s _ _ _) Tryd.underlying34 Tryd.sizeOf3 rfl rfl (by omega) (by omega) rfl ?_ | refine V_ixz (.s _ _ _) Tryd.underlying34 Tryd.sizeOf3 rfl rfl (hd.pl (by simp)) (by omega) (by omega) rfl ?_   -- 15.8
                  refine V_go (1, true) rfl ?_
                  refine V_ldz (.s _ _ _) Tryd.isAgg3 rfl hd (I_getN (xs := ds) (i := p + adv (letters.getD j 0) xs p 1) (by omega)) rfl ?_   -- 15.9
                  refine V_go (1, true) rfl ?_
                  refine V_add (.s _ _ _) rfl rfl (wrap_ok (by omega)) rfl ?_   -- 15.10
                  refine V_go (1, true) rfl ?_
                  refine V_gtr (.s _ _ _) rfl rfl rfl ?_   -- 15.11
                  refine V_pickT (.s _ _ _) rfl rfl rfl ?_   -- 15.12
                  refine V_sub [(0, _), (1, _), (4, _), (5, _), (6, _), (7, _), (8, _), (9, _), (10, _), (11, _), (35, _), (36, _), (39, _), (40, _), (62, _)] ⟨rfl, rfl, rfl, rfl, rfl, rfl, rfl, rfl, rfl, rfl, rfl, rfl, rfl, rfl, rfl, trivial⟩ ?_
                  refine V_nil (.inr ⟨_, rfl⟩) ?_
                  refine E_then ?_
                  refine J_cond rfl (fun h7 => ?_) (fun h7 => ?_)   -- C5
                  · skip
                    refine J_region ?_
                    refine V_asg (.n _) rfl rfl ?_   -- 16.0
                    refine V_sub [(0, _), (1, _), (4, _), (5, _), (6, _), (7, _), (8, _), (9, _), (10, _), (11, _), (35, _), (36, _), (39, _), (40, _), (62, _)] ⟨rfl, rfl, rfl, rfl, rfl, rfl, rfl, rfl, rfl, rfl, rfl, rfl, rfl, rfl, rfl, trivial⟩ ?_
                    refine V_nil (.inl rfl) ?_
                    refine E_blk ?_
                    refine E_then ?_
                    refine J_region ?_
                    refine V_add (.n _) rfl rfl (wrap_ok (by omega)) rfl ?_   -- 17.0
                    refine V_mov (.n _) rfl rfl ?_   -- 17.1
                    refine V_sub [(0, _), (1, _), (4, _), (5, _), (6, _), (7, _), (8, _), (9, _), (10, _), (11, _), (35, _), (36, _), (39, _), (40, _), (62, _)] ⟨rfl, rfl, rfl, rfl, rfl, rfl, rfl, rfl, rfl, rfl, rfl, rfl, rfl, rfl, rfl, trivial⟩ ?_
                    refine V_nil (.inl rfl) ?_
                    -- again L1 0
                    refine E_again (j + 1) ?_ ?_ ?_ (fun w h => h)
                    · omega
                    · omega
                    · refine ⟨?_, ?_, ?_, ?_, ?_, ?_, ?_, ?_, ?_, ?_, trivial⟩ <;> first | rfl | exact int_eq (by omega) | exact int_eq (by dsimp only; omega) | exact bool_eq (row_bad (xs := xs) (ds := ds) (p := p) (j := j) (by omega) (by assumption) (by assumption)) | exact bool_eq (row_ok (xs := xs) (ds := ds) (p := p) (j := j) (by omega) (fun hh => by first | exact absurd hh.1 (by assumption) | exact absurd hh.2 (by assumption)))
                  · skip
                    refine J_skip ?_
                    refine E_blk ?_
                    refine E_then ?_
                    refine J_region ?_
                    refine V_add (.n _) rfl rfl (wrap_ok (by omega)) rfl ?_   -- 17.0
                    refine V_mov (.n _) rfl rfl ?_   -- 17.1
                    refine V_sub [(0, _), (1, _), (4, _), (5, _), (6, _), (7, _), (8, _), (9, _), (10, _), (11, _), (35, _), (36, _), (39, _), (40, _), (62, _)] ⟨rfl, rfl, rfl, rfl, rfl, rfl, rfl, rfl, rfl, rfl, rfl, rfl, rfl, rfl, rfl, trivial⟩ ?_
                    refine V_nil (.inl rfl) ?_
                    -- again L1 1
                    refine E_again (j + 1) ?_ ?_ ?_ (fun w h => h)
                    · omega
                    · omega
                    · refine ⟨?_, ?_, ?_, ?_, ?_, ?_, ?_, ?_, ?_, ?_, trivial⟩ <;> first | rfl | exact int_eq (by omega) | exact int_eq (by dsimp only; omega) | exact bool_eq (row_bad (xs := xs) (ds := ds) (p := p) (j := j) (by omega) (by assumption) (by assumption)) | exact bool_eq (row_ok (xs := xs) (ds := ds) (p := p) (j := j) (by omega) (fun hh => by first | exact absurd hh.1 (by assumption) | exact absurd hh.2 (by assumption)))
                · skip
                  refine V_pass (.s _ _ _) (1, true) rfl rfl ?_   -- 15.2
                  refine V_pass (.s _ _ _) (1, true) rfl rfl ?_   -- 15.3
                  refine V_pass (.s _ _ _) (1, true) rfl rfl ?_   -- 15.4
                  refine V_pass (.s _ _ _) (1, true) rfl rfl ?_   -- 15.5
                  refine V_pass (.s _ _ _) (1, true) rfl rfl ?_   -- 15.6
                  refine V_pass (.s _ _ _) (1, true) rfl rfl ?_   -- 15.7
                  refine V_pass (.s _ _ _) (1, true) rfl rfl ?_   -- 15.8
                  refine V_pass (.s _ _ _) (1, true) rfl rfl ?_   -- 15.9
                  refine V_pass (.s _ _ _) (1, true) rfl rfl ?_   -- 15.10
                  refine V_pass (.s _ _ _) (1, true) rfl rfl ?_   -- 15.11
                  refine V_pickF (.s _ _ _) rfl rfl rfl ?_   -- 15.12
                  refine V_sub [(0, _), (1, _), (4, _), (5, _), (6, _), (7, _), (8, _), (9, _), (10, _), (11, _), (35, _), (36, _), (39, _), (40, _), (62, _)] ⟨rfl, rfl, rfl, rfl, rfl, rfl, rfl, rfl, rfl, rfl, rfl, rfl, rfl, rfl, rfl, trivial⟩ ?_
                  refine V_nil (.inr ⟨_, rfl⟩) ?_
                  refine E_then ?_
                  refine J_condF rfl ?_
                  refine J_skip ?_
                  refine E_blk ?_
                  refine E_then ?_
                  refine J_region ?_
                  refine V_add (.n _) rfl rfl (wrap_ok (by omega)) rfl ?_   -- 17.0
                  refine V_mov (.n _) rfl rfl ?_   -- 17.1
                  refine V_sub [(0, _), (1, _), (4, _), (5, _), (6, _), (7, _), (8, _), (9, _), (10, _), (11, _), (35, _), (36, _), (39, _), (40, _), (62, _)] ⟨rfl, rfl, rfl, rfl, rfl, rfl, rfl, rfl, rfl, rfl, rfl, rfl, rfl, rfl, rfl, trivial⟩ ?_
                  refine V_nil (.inl rfl) ?_
                  -- again L1 2
                  refine E_again (j + 1) ?_ ?_ ?_ (fun w h => h)
                  · omega
                  · omega
                  · refine ⟨?_, ?_, ?_, ?_, ?_, ?_, ?_, ?_, ?_, ?_, trivial⟩ <;> first | rfl | exact int_eq (by omega) | exact int_eq (by dsimp only; omega) | exact bool_eq (row_bad (xs := xs) (ds := ds) (p := p) (j := j) (by omega) (by assumption) (by assumption)) | exact bool_eq (row_ok (xs := xs) (ds := ds) (p := p) (j := j) (by omega) (fun hh => by first | exact absurd hh.1 (by assumption) | exact absurd hh.2 (by assumption)))
              · skip
                refine J_exit ?_
                refine E_then_exit ?_
                refine E_lp_exit ?_
                refine E_blk_hit ?_
                refine E_blk ?_
                refine E_then ?_
                refine J_region ?_
                refine V_add (.n _) rfl rfl (wrap_ok (by omega)) rfl ?_   -- 18.0
                refine V_mov (.n _) rfl rfl ?_   -- 18.1
                refine V_sub [(0, _), (1, _), (4, _), (5, _), (6, _), (7, _), (8, _), (35, _), (36, _), (39, _), (40, _)] ⟨rfl, rfl, rfl, rfl, rfl, rfl, rfl, rfl, rfl, rfl, rfl, trivial⟩ ?_
                refine V_nil (.inl rfl) ?_
                -- again L0 0
                refine E_again (p + 1) ?_ ?_ ?_ (fun w h => h)
                · omega
                · omega
                · refine ⟨?_, ?_, ?_, ?_, ?_, ?_, ?_, ?_, trivial⟩ <;> first | rfl | exact int_eq (by omega) | exact int_eq (by dsimp only; omega) | exact bool_eq (row_end (by assumption) (by assumption))
          · skip
            refine J_exit ?_
            refine E_then_exit ?_
            refine E_lp_exit ?_
            refine E_blk_hit ?_
            refine E_then ?_
            refine J_seq ?_
            refine J_region ?_
            refine V_mov (.n _) rfl rfl ?_   -- 19.0
            first | refine V_ix (.n _) Tryd.underlying34 Tryd.sizeOf3 rfl rfl (by omega) (by omega) rfl ?_ | refine V_ixz (.n _) Tryd.underlying34 Tryd.sizeOf3 rfl rfl (hd.pl (by simp)) (by omega) (by omega) rfl ?_   -- 19.1
            refine V_ldz (.n _) Tryd.isAgg3 rfl hd (I_getN (xs := ds) (i := 0) (by omega)) rfl ?_   -- 19.2
            refine V_mov (.n _) rfl rfl ?_   -- 19.3
            refine V_asg (.n _) rfl rfl ?_   -- 19.4
            refine V_asg (.n _) rfl rfl ?_   -- 19.5
            refine V_asg (.n _) rfl rfl ?_   -- 19.6
            refine V_sub [(0, _), (1, _), (4, _), (5, _), (6, _), (7, _), (35, _), (36, _), (37, _)] ⟨rfl, rfl, rfl, rfl, rfl, rfl, rfl, rfl, rfl, trivial⟩ ?_
            refine V_nil (.inl rfl) ?_
            refine E_then ?_
            refine J_ret ?_
            -- return R3
            refine E_ret3 Tryd.results26 rfl rfl rfl (fun w hw => ?_)
            obtain rfl : p = posN xs - 1 := by omega
            refine ⟨?_, hw⟩
            rw [boundOf, if_neg (by simp [hv]), if_neg (by omega), if_neg (by simpa using h3)]
            obtain ⟨n, hn⟩ : ∃ n, posN xs = n + 1 := ⟨posN xs - 1, by omega⟩
            rw [hn, snd_last xs ds _ hn]; rfl

end Go.Proofs.YtgeahmmepfmcoaaDoor
