/- parts that the proof of BathTours uses -/
import Derived.Test.YtgeahmmepfmcoaaDoorBMath
namespace Go.Proofs.YtgeahmmepfmcoaaDoor
open Go Go.RowKit L
set_option linter.unusedVariables false
set_option linter.unusedSimpArgs false

theorem isWord_of_le {s : List UInt8} (h : s.length ≤ 8) : isWord s = decide (trimS letters s = []) := by rw [trimS_bool]; simp [isWord, h]

theorem word_spec (w : World) (s : List UInt8) : Calls Tryd.prog 55 #[.string ⟨s.toArray⟩] w fun e w' => e = .returned (.bool (isWord s)) ∧ St w [] w' := by
  refine calls (args := [.string ⟨s.toArray⟩]) Tryd.func55 rfl Tryd.ntmps55 (Nat.le_of_ble_eq_true rfl) (St.refl w) ?_
  refine J_seq ?_
  refine J_region ?_
  refine V_asg (.n _) rfl rfl ?_   -- 0.0
  refine V_sub [(0, _), (2, _)] ⟨rfl, rfl, trivial⟩ ?_
  refine V_nil (.inl rfl) ?_
  refine E_then ?_
  refine J_seq ?_
  refine J_region ?_
  refine V_mov (.n _) rfl rfl ?_   -- 1.0
  refine V_slen (.n _) Tryd.underlying9 rfl rfl ?_   -- 1.1
  refine V_leq (.n _) rfl rfl rfl ?_   -- 1.2
  refine V_mov (.n _) rfl rfl ?_   -- 1.3
  refine V_split 6 rfl (fun h1 => ?_) (fun h1 => ?_)   -- guard 1.3
  · skip
    refine V_go (3, true) rfl ?_
    refine V_mov (.n _) rfl rfl ?_   -- 1.4
    refine V_go (3, true) rfl ?_
    refine V_call0 (.n _) Tryd.call53 (.cons rfl (.cons rfl .nil)) (fun w1 hw1 => trim_spec w1 letters s (by omega) (by decide) (by decide) (by decide)) rfl trivial ?_   -- 1.5
    refine V_go (3, true) rfl ?_
    refine V_seql (.n _) rfl rfl rfl ?_   -- 1.6
    refine V_pickT (.n _) rfl rfl rfl ?_   -- 1.7
    refine V_asg (.n _) rfl rfl ?_   -- 1.8
    refine V_sub [(0, _), (2, _)] ⟨rfl, rfl, trivial⟩ ?_
    refine V_nil (.inl rfl) ?_
    refine E_then ?_
    refine J_ret ?_
    -- return R0
    refine E_ret1 Tryd.results55 rfl (fun w hw => ?_)
    exact ⟨by rw [isWord_of_le (by omega)], hw⟩
  · skip
    refine V_pass (.n .p) (3, true) rfl rfl ?_   -- 1.4
    refine V_pass (.n .p) (3, true) rfl rfl ?_   -- 1.5
    refine V_pass (.n .p) (3, true) rfl rfl ?_   -- 1.6
    refine V_pickF (.n _) rfl rfl rfl ?_   -- 1.7
    refine V_asg (.n _) rfl rfl ?_   -- 1.8
    refine V_sub [(0, _), (2, _)] ⟨rfl, rfl, trivial⟩ ?_
    refine V_nil (.inl rfl) ?_
    refine E_then ?_
    refine J_ret ?_
    -- return R1
    refine E_ret1 Tryd.results55 rfl (fun w hw => ?_)
    exact ⟨by rw [isWord_long (by omega)], hw⟩

theorem valid1_spec (w : World) (s : List UInt8) : Calls Tryd.prog 97 #[.string ⟨s.toArray⟩] w fun e w' => e = .returned (.bool (!isWord s)) ∧ St w [] w' := by
  refine calls (args := [.string ⟨s.toArray⟩]) Tryd.func97 rfl Tryd.ntmps97 (Nat.le_of_ble_eq_true rfl) (St.refl w) ?_
  refine J_seq ?_
  refine J_region ?_
  refine V_asg (.n _) rfl rfl ?_   -- 0.0
  refine V_sub [(0, _), (2, _)] ⟨rfl, rfl, trivial⟩ ?_
  refine V_nil (.inl rfl) ?_
  refine E_then ?_
  refine J_seq ?_
  refine J_region ?_
  refine V_mov (.n _) rfl rfl ?_   -- 1.0
  refine V_call0 (.n _) Tryd.call55 (.cons rfl .nil) (fun w1 hw1 => word_spec w1 s) rfl trivial ?_   -- 1.1
  refine V_notB (.n _) rfl rfl ?_   -- 1.2
  refine V_asg (.n _) rfl rfl ?_   -- 1.3
  refine V_sub [(0, _), (2, _)] ⟨rfl, rfl, trivial⟩ ?_
  refine V_nil (.inl rfl) ?_
  refine E_then ?_
  refine J_ret ?_
  -- return R0
  refine E_ret1 Tryd.results97 rfl (fun w hw => ?_)
  exact ⟨rfl, hw⟩

theorem words_index (w : World) (A : Option Addr) (c : Nat) (xs : List (List UInt8)) (hl : xs.length ≤ 140737488351232) (hr : Rd w A (Ss xs)) :
    Calls Tryd.prog 115 #[.slice A xs.length c, .func (.func 97) #[] #[]] w fun e w' => ∃ i : Int, e = .returned (.int .i64 i) ∧ decide (0 ≤ i) = xs.any (fun s => !isWord s) ∧ St w [] w' := by
  refine calls (args := [.slice A xs.length c, .func (.func 97) #[] #[]]) Tryd.func115 rfl Tryd.ntmps115 (Nat.le_of_ble_eq_true rfl) (St.refl w) ?_
  refine J_seq ?_
  refine J_region ?_
  refine V_asg (.n _) rfl rfl ?_   -- 0.0
  refine V_sub [(0, _), (1, _), (4, _)] ⟨rfl, rfl, rfl, trivial⟩ ?_
  refine V_nil (.inl rfl) ?_
  refine E_then ?_
  refine J_seq ?_
  refine J_seq ?_
  refine J_region ?_
  refine V_mov (.n _) rfl rfl ?_   -- 1.0
  refine V_len (.n _) Tryd.underlying22 rfl rfl ?_   -- 1.1
  refine V_mov (.n _) rfl rfl ?_   -- 1.2
  refine V_sub [(0, _), (1, _), (4, _), (7, _), (8, _)] ⟨rfl, rfl, rfl, rfl, rfl, trivial⟩ ?_
  refine V_nil (.inl rfl) ?_
  refine E_then ?_
  refine J_block ?_
  -- loop L0
  refine J_loop (X := Int) (fun k => [(0, (.slice A xs.length c)), (1, (.func (.func 97) #[] #[])), (7, (.int .i64 ((xs.length : Nat) : Int))), (8, .int .i64 k)]) (fun k => []) (fun k => 0 ≤ k ∧ k ≤ xs.length ∧ ∀ j : Nat, (j : Int) < k → (fun s => !isWord s) (xs.getD j default) = false) (fun k => (xs.length - k).toNat) (0) (by refine ⟨?_, ?_, ?_, ?_, trivial⟩ <;> first | rfl | exact int_eq (by omega)) (fun w h => h) ?_ ?_
  · exact ⟨by omega, by omega, fun j hj => by omega⟩
  · rintro k ⟨hk0, hk1, hk2⟩
    refine J_seq ?_
    refine J_region ?_
    refine V_lss (.n _) rfl rfl rfl ?_   -- 2.0
    refine V_sub [(0, _), (1, _), (7, _), (8, _), (9, _)] ⟨rfl, rfl, rfl, rfl, rfl, trivial⟩ ?_
    refine V_nil (.inl rfl) ?_
    refine E_then ?_
    refine J_seq ?_
    refine J_cond rfl (fun h1 => ?_) (fun h1 => ?_)   -- C0
    · skip
      refine J_skip ?_
      refine E_then ?_
      refine J_seq ?_
      refine J_block ?_
      refine J_seq ?_
      refine J_region ?_
      refine V_mov (.n _) rfl rfl ?_   -- 3.0
      refine V_asg (.n _) rfl rfl ?_   -- 3.1
      refine V_sub [(0, _), (1, _), (5, _), (7, _), (8, _), (9, _)] ⟨rfl, rfl, rfl, rfl, rfl, rfl, trivial⟩ ?_
      refine V_nil (.inl rfl) ?_
      refine E_then ?_
      refine J_seq ?_
      refine J_region ?_
      refine V_mov (.n _) rfl rfl ?_   -- 4.0
      refine V_mov (.n _) rfl rfl ?_   -- 4.1
      refine V_mov (.n _) rfl rfl ?_   -- 4.2
      first | refine V_ix (.n _) Tryd.underlying22 Tryd.sizeOf9 rfl rfl (by omega) (by omega) rfl ?_ | refine V_ixz (.n _) Tryd.underlying22 Tryd.sizeOf9 rfl rfl (hr.pl (by simp)) (by omega) (by omega) rfl ?_   -- 4.3
      first | refine V_ld (.n _) Tryd.isAgg9 rfl (by repeat (first | exact List.Mem.head _ | assumption | apply List.Mem.tail)) (by rfl) rfl ?_ | refine V_ldz (.n _) Tryd.isAgg9 rfl hr (Ss_get (by omega) (by omega)) rfl ?_   -- 4.4
      refine V_callC0 (.n _) Tryd.call97 rfl (.cons rfl .nil) (fun w1 hw1 => valid1_spec w1 (xs.getD k.toNat [])) rfl trivial ?_   -- 4.5
      refine V_sub [(0, _), (1, _), (5, _), (7, _), (8, _), (9, _), (16, _)] ⟨rfl, rfl, rfl, rfl, rfl, rfl, rfl, trivial⟩ ?_
      refine V_nil (.inl rfl) ?_
      refine E_then ?_
      refine J_condB rfl (fun h2 => ?_) (fun h2 => ?_)   -- C1
      · skip
        refine J_seq ?_
        refine J_region ?_
        refine V_mov (.n _) rfl rfl ?_   -- 5.0
        refine V_asg (.n _) rfl rfl ?_   -- 5.1
        refine V_sub [(0, _), (1, _), (4, _), (5, _), (7, _), (8, _), (9, _), (16, _)] ⟨rfl, rfl, rfl, rfl, rfl, rfl, rfl, rfl, trivial⟩ ?_
        refine V_nil (.inl rfl) ?_
        refine E_then ?_
        refine J_ret ?_
        refine E_blk_ret ?_
        refine E_then_ret ?_
        refine E_lp_ret ?_
        refine E_blk_ret ?_
        refine E_then_ret ?_
        -- return R0
        refine E_ret1 Tryd.results115 rfl (fun w hw => ?_)
        exact ⟨k, rfl, any_yes hk0 h1 h2, hw⟩
      · skip
        refine J_skip ?_
        refine E_blk ?_
        refine E_then ?_
        refine J_region ?_
        refine V_add (.n _) rfl rfl (wrap_ok (by omega)) rfl ?_   -- 6.0
        refine V_mov (.n _) rfl rfl ?_   -- 6.1
        refine V_sub [(0, _), (1, _), (5, _), (7, _), (8, _), (9, _), (16, _)] ⟨rfl, rfl, rfl, rfl, rfl, rfl, rfl, trivial⟩ ?_
        refine V_nil (.inl rfl) ?_
        -- again L0 0
        refine E_again (k + 1) ?_ ?_ ?_ (fun w h => h)
        · omega
        · exact ⟨by omega, by omega, any_step (g := fun s => !isWord s) hk0 hk2 h2⟩
        · refine ⟨?_, ?_, ?_, ?_, trivial⟩ <;> first | rfl | exact int_eq (by omega) | exact int_eq (by dsimp only; omega)
    · skip
      refine J_exit ?_
      refine E_then_exit ?_
      refine E_lp_exit ?_
      refine E_blk_hit ?_
      refine E_then ?_
      refine J_seq ?_
      refine J_region ?_
      refine V_asg (.n _) rfl rfl ?_   -- 7.0
      refine V_sub [(0, _), (1, _), (4, _), (7, _), (8, _), (9, _)] ⟨rfl, rfl, rfl, rfl, rfl, rfl, trivial⟩ ?_
      refine V_nil (.inl rfl) ?_
      refine E_then ?_
      refine J_ret ?_
      -- return R1
      refine E_ret1 Tryd.results115 rfl (fun w hw => ?_)
      exact ⟨-1, rfl, any_no (by omega) hk2, hw⟩

theorem words_any (w : World) (A : Option Addr) (c : Nat) (xs : List (List UInt8)) (hl : xs.length ≤ 140737488351232) (hr : Rd w A (Ss xs)) :
    Calls Tryd.prog 96 #[.slice A xs.length c, .func (.func 97) #[] #[]] w fun e w' => e = .returned (.bool (xs.any (fun s => !isWord s))) ∧ St w [] w' := by
  refine calls (args := [.slice A xs.length c, .func (.func 97) #[] #[]]) Tryd.func96 rfl Tryd.ntmps96 (Nat.le_of_ble_eq_true rfl) (St.refl w) ?_
  refine J_seq ?_
  refine J_region ?_
  refine V_asg (.n _) rfl rfl ?_   -- 0.0
  refine V_sub [(0, _), (1, _), (4, _)] ⟨rfl, rfl, rfl, trivial⟩ ?_
  refine V_nil (.inl rfl) ?_
  refine E_then ?_
  refine J_seq ?_
  refine J_region ?_
  refine V_mov (.n _) rfl rfl ?_   -- 1.0
  refine V_mov (.n _) rfl rfl ?_   -- 1.1
  refine V_call (post := fun v D => ∃ i : Int, v = .int .i64 i ∧ decide (0 ≤ i) = xs.any (fun s => !isWord s) ∧ D = []) (.n _) Tryd.call115 (.cons rfl (.cons rfl .nil)) (fun w1 hw1 => (words_index w1 A c xs hl (hr.keep hw1)).mono fun e w2 ⟨i, he, hi, hD⟩ => ⟨_, [], he, hD, i, rfl, hi, rfl⟩) rfl trivial ?_
  rintro v D ⟨i, rfl, hi, rfl⟩
  refine V_geq (.n _) rfl rfl rfl ?_   -- 1.3
  refine V_asg (.n _) rfl rfl ?_   -- 1.4
  refine V_sub [(0, _), (1, _), (4, _)] ⟨rfl, rfl, rfl, trivial⟩ ?_
  refine V_nil (.inl rfl) ?_
  refine E_then ?_
  refine J_ret ?_
  -- return R0
  refine E_ret1 Tryd.results96 rfl (fun w hw => ?_)
  exact ⟨by rw [← hi], hw⟩

theorem valid_spec (w : World) (A : Option Addr) (c : Nat) (xs : List (List UInt8)) (hl : xs.length ≤ 140737488351232) (hr : Rd w A (Ss xs)) : Calls Tryd.prog 50 #[.slice A xs.length c] w fun e w' => e = .returned (.bool (validW xs)) ∧ St w [] w' := by
  refine calls (args := [.slice A xs.length c]) Tryd.func50 rfl Tryd.ntmps50 (Nat.le_of_ble_eq_true rfl) (St.refl w) ?_
  refine J_seq ?_
  refine J_region ?_
  refine V_asg (.n _) rfl rfl ?_   -- 0.0
  refine V_sub [(0, _), (2, _)] ⟨rfl, rfl, trivial⟩ ?_
  refine V_nil (.inl rfl) ?_
  refine E_then ?_
  refine J_seq ?_
  refine J_region ?_
  refine V_mov (.n _) rfl rfl ?_   -- 1.0
  refine V_len (.n _) Tryd.underlying22 rfl rfl ?_   -- 1.1
  refine V_geq (.n _) rfl rfl rfl ?_   -- 1.2
  refine V_mov (.n _) rfl rfl ?_   -- 1.3
  refine V_split 6 rfl (fun h1 => ?_) (fun h1 => ?_)   -- guard 1.3
  · skip
    refine V_go (3, true) rfl ?_
    refine V_mov (.n _) rfl rfl ?_   -- 1.4
    refine V_go (3, true) rfl ?_
    refine V_len (.n _) Tryd.underlying22 rfl rfl ?_   -- 1.5
    refine V_go (3, true) rfl ?_
    refine V_leq (.n _) rfl rfl rfl ?_   -- 1.6
    refine V_pickT (.n _) rfl rfl rfl ?_   -- 1.7
    refine V_mov (.n _) rfl rfl ?_   -- 1.8
    refine V_split 11 rfl (fun h2 => ?_) (fun h2 => ?_)   -- guard 1.8
    · skip
      refine V_go (8, true) rfl ?_
      refine V_mov (.n _) rfl rfl ?_   -- 1.9
      refine V_go (8, true) rfl ?_
      refine V_call0 (.n _) Tryd.call96 (.cons rfl (.cons rfl .nil)) (fun w1 hw1 => words_any w1 A c xs hl (hr.keep hw1)) rfl trivial ?_   -- 1.10
      refine V_go (8, true) rfl ?_
      refine V_notB (.n _) rfl rfl ?_   -- 1.11
      refine V_pickT (.n _) rfl rfl rfl ?_   -- 1.12
      refine V_asg (.n _) rfl rfl ?_   -- 1.13
      refine V_sub [(0, _), (2, _)] ⟨rfl, rfl, trivial⟩ ?_
      refine V_nil (.inl rfl) ?_
      refine E_then ?_
      refine J_ret ?_
      -- return R0
      refine E_ret1 Tryd.results50 rfl (fun w hw => ?_)
      exact ⟨by rw [validW_of (by omega) (by omega)], hw⟩
    · skip
      refine V_pass (.n .p) (8, true) rfl rfl ?_   -- 1.9
      refine V_pass (.n .p) (8, true) rfl rfl ?_   -- 1.10
      refine V_pass (.n .p) (8, true) rfl rfl ?_   -- 1.11
      refine V_pickF (.n _) rfl rfl rfl ?_   -- 1.12
      refine V_asg (.n _) rfl rfl ?_   -- 1.13
      refine V_sub [(0, _), (2, _)] ⟨rfl, rfl, trivial⟩ ?_
      refine V_nil (.inl rfl) ?_
      refine E_then ?_
      refine J_ret ?_
      -- return R1
      refine E_ret1 Tryd.results50 rfl (fun w hw => ?_)
      exact ⟨by rw [validW_no (by omega)], hw⟩
  · skip
    refine V_pass (.n .p) (3, true) rfl rfl ?_   -- 1.4
    refine V_pass (.n .p) (3, true) rfl rfl ?_   -- 1.5
    refine V_pass (.n .p) (3, true) rfl rfl ?_   -- 1.6
    refine V_pickF (.n _) rfl rfl rfl ?_   -- 1.7
    refine V_mov (.n _) rfl rfl ?_   -- 1.8
    refine V_pass (.n .p) (8, true) rfl rfl ?_   -- 1.9
    refine V_pass (.n .p) (8, true) rfl rfl ?_   -- 1.10
    refine V_pass (.n .p) (8, true) rfl rfl ?_   -- 1.11
    refine V_pickF (.n _) rfl rfl rfl ?_   -- 1.12
    refine V_asg (.n _) rfl rfl ?_   -- 1.13
    refine V_sub [(0, _), (2, _)] ⟨rfl, rfl, trivial⟩ ?_
    refine V_nil (.inl rfl) ?_
    refine E_then ?_
    refine J_ret ?_
    -- return R2
    refine E_ret1 Tryd.results50 rfl (fun w hw => ?_)
    exact ⟨by rw [validW_no (by omega)], hw⟩

end Go.Proofs.YtgeahmmepfmcoaaDoor
