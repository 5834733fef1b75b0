/- parts of the proofs of the bath statements -/
import Derived.Test.YtgeahmmepfmcoaaDoorBounds
import Derived.Test.YtgeahmmepfmcoaaDoorBMath4
namespace Go.Proofs.YtgeahmmepfmcoaaDoor
open Go Go.RowKit L
set_option linter.unusedVariables false
set_option linter.unusedSimpArgs false

theorem tight_R {xs : List (List UInt8)} (hv : validW xs = true) {i : Nat} (hi : i < (shortS xs).length) : coversR ((shortS xs).take i ++ (shortS xs).drop (i + 1)) xs = (false, 0) := by
  have h1 := short_le hv
  have h2 : trimS letters ((shortS xs).take i ++ (shortS xs).drop (i + 1)) = [] := by
    refine of_decide_eq_true ?_
    rw [trimS_bool]
    refine List.all_eq_true.2 fun c hc => ?_
    have : c ∈ shortS xs := by
      rcases List.mem_append.1 hc with h | h
      · exact List.mem_of_mem_take h
      · exact List.mem_of_mem_drop h
    simpa using short_letters hv c this
  rw [coversR, if_pos ⟨hv, by simp; omega, h2⟩, short_tight hv hi]

theorem tight_no (w : World) (A : Option Addr) (c : Nat) (s : List UInt8) (xs : List (List UInt8)) (hl : xs.length ≤ 140737488351232) (hs : s.length ≤ 140737488351232) (hr : Rd w A (Ss xs)) (hv : validW xs = false) :
    Calls Tryd.prog 3 #[.slice A xs.length c, .string ⟨s.toArray⟩] w fun e w' => e = .returned (.bool true) ∧ St w [] w' := by
  refine calls (args := [.slice A xs.length c, .string ⟨s.toArray⟩]) Tryd.func3 rfl Tryd.ntmps3 (Nat.le_of_ble_eq_true rfl) (St.refl w) ?_
  refine J_seq ?_
  refine J_region ?_
  refine V_asg (.n _) rfl rfl ?_   -- 0.0
  refine V_sub [(0, _), (1, _), (4, _)] ⟨rfl, rfl, rfl, trivial⟩ ?_
  refine V_nil (.inl rfl) ?_
  refine E_then ?_
  refine J_seq ?_
  refine J_region ?_
  refine V_mov (.n _) rfl rfl ?_   -- 1.0
  refine V_call0 (.n _) Tryd.call16 (.cons rfl .nil) (fun w1 hw1 => Shortest_no w1 A c xs hl (hr.keep hw1) hv) rfl trivial ?_   -- 1.1
  refine V_mov (.n _) rfl rfl ?_   -- 1.2
  refine V_ext (.n _) rfl rfl rfl ?_   -- 1.3
  refine V_ext (.n _) rfl rfl rfl ?_   -- 1.4
  refine V_asg (.n _) rfl rfl ?_   -- 1.5
  refine V_asg (.n _) rfl rfl ?_   -- 1.6
  refine V_sub [(0, _), (1, _), (4, _), (5, _), (6, _)] ⟨rfl, rfl, rfl, rfl, rfl, trivial⟩ ?_
  refine V_nil (.inl rfl) ?_
  refine E_then ?_
  refine J_seq ?_
  refine J_seq ?_
  refine J_region ?_
  refine V_mov (.n _) rfl rfl ?_   -- 2.0
  refine V_neq (.n _) rfl rfl rfl ?_   -- 2.1
  refine V_sub [(0, _), (1, _), (4, _), (5, _), (6, _), (17, _)] ⟨rfl, rfl, rfl, rfl, rfl, rfl, trivial⟩ ?_
  refine V_nil (.inl rfl) ?_
  refine E_then ?_
  refine J_condT rfl ?_
  refine J_seq ?_
  refine J_region ?_
  refine V_mov (.n _) rfl rfl ?_   -- 3.0
  refine V_eql (.n _) rfl rfl rfl ?_   -- 3.1
  refine V_mov (.n _) rfl rfl ?_   -- 3.2
  refine V_go (2, true) rfl ?_
  refine V_call0 (.n _) Tryd.call17 .nil (fun w1 hw1 => awake_spec w1) rfl trivial ?_   -- 3.3
  refine V_pickT (.n _) rfl rfl rfl ?_   -- 3.4
  refine V_asg (.n _) rfl rfl ?_   -- 3.5
  refine V_sub [(0, _), (1, _), (4, _), (5, _), (6, _), (17, _)] ⟨rfl, rfl, rfl, rfl, rfl, rfl, trivial⟩ ?_
  refine V_nil (.inl rfl) ?_
  refine E_then ?_
  refine J_ret ?_
  refine E_then_ret ?_
  -- return R0
  refine E_ret1 Tryd.results3 rfl (fun w hw => ?_)
  exact ⟨rfl, hw⟩

theorem tight_yes (w : World) (A : Option Addr) (c : Nat) (s : List UInt8) (xs : List (List UInt8)) (hl : xs.length ≤ 140737488351232) (hs : s.length ≤ 140737488351232) (hr : Rd w A (Ss xs)) (hv : validW xs = true) :
    Calls Tryd.prog 3 #[.slice A xs.length c, .string ⟨s.toArray⟩] w fun e w' => e = .returned (.bool true) ∧ St w [] w' := by
  have hsl := short_le hv
  refine calls (args := [.slice A xs.length c, .string ⟨s.toArray⟩]) Tryd.func3 rfl Tryd.ntmps3 (Nat.le_of_ble_eq_true rfl) (St.refl w) ?_
  refine J_seq ?_
  refine J_region ?_
  refine V_asg (.n _) rfl rfl ?_   -- 0.0
  refine V_sub [(0, _), (1, _), (4, _)] ⟨rfl, rfl, rfl, trivial⟩ ?_
  refine V_nil (.inl rfl) ?_
  refine E_then ?_
  refine J_seq ?_
  refine J_region ?_
  refine V_mov (.n _) rfl rfl ?_   -- 1.0
  refine V_call0 (.n _) Tryd.call16 (.cons rfl .nil) (fun w1 hw1 => Shortest_yes w1 A c xs hl (hr.keep hw1) hv) rfl trivial ?_   -- 1.1
  refine V_mov (.n _) rfl rfl ?_   -- 1.2
  refine V_ext (.n _) rfl rfl rfl ?_   -- 1.3
  refine V_ext (.n _) rfl rfl rfl ?_   -- 1.4
  refine V_asg (.n _) rfl rfl ?_   -- 1.5
  refine V_asg (.n _) rfl rfl ?_   -- 1.6
  refine V_sub [(0, _), (1, _), (4, _), (5, _), (6, _)] ⟨rfl, rfl, rfl, rfl, rfl, trivial⟩ ?_
  refine V_nil (.inl rfl) ?_
  refine E_then ?_
  refine J_seq ?_
  refine J_seq ?_
  refine J_region ?_
  refine V_mov (.n _) rfl rfl ?_   -- 2.0
  refine V_neq (.n _) rfl rfl rfl ?_   -- 2.1
  refine V_sub [(0, _), (1, _), (4, _), (5, _), (6, _), (17, _)] ⟨rfl, rfl, rfl, rfl, rfl, rfl, trivial⟩ ?_
  refine V_nil (.inl rfl) ?_
  refine E_then ?_
  refine J_condF rfl ?_
  refine J_skip ?_
  refine E_then ?_
  refine J_seq ?_
  refine J_seq ?_
  refine J_region ?_
  refine V_mov (.n _) rfl rfl ?_   -- 4.0
  refine V_slen (.n _) Tryd.underlying9 rfl rfl ?_   -- 4.1
  refine V_mov (.n _) rfl rfl ?_   -- 4.2
  refine V_sub [(0, _), (1, _), (4, _), (5, _), (6, _), (17, _), (24, _), (25, _)] ⟨rfl, rfl, rfl, rfl, rfl, rfl, rfl, rfl, trivial⟩ ?_
  refine V_nil (.inl rfl) ?_
  refine E_then ?_
  refine J_block ?_
  -- loop L0
  refine J_loop (X := Nat) (fun i => [(0, (.slice A xs.length c)), (1, (.string ⟨s.toArray⟩)), (5, (.string ⟨(shortS xs).toArray⟩)), (6, (.int .i64 0)), (24, .int .i64 ((shortS xs).length : Nat)), (25, .int .i64 (i : Nat))]) (fun i => []) (fun i => i ≤ (shortS xs).length) (fun i => (shortS xs).length - i) (0) (by refine ⟨?_, ?_, ?_, ?_, ?_, ?_, trivial⟩ <;> first | rfl | exact int_eq (by omega)) (fun w h => h) ?_ ?_
  · omega
  · intro i hi
    refine J_seq ?_
    refine J_region ?_
    refine V_lss (.n _) rfl rfl rfl ?_   -- 5.0
    refine V_sub [(0, _), (1, _), (5, _), (6, _), (24, _), (25, _), (26, _)] ⟨rfl, rfl, rfl, rfl, rfl, rfl, rfl, trivial⟩ ?_
    refine V_nil (.inl rfl) ?_
    refine E_then ?_
    refine J_seq ?_
    refine J_cond rfl (fun h1 => ?_) (fun h1 => ?_)   -- C1
    · skip
      refine J_skip ?_
      refine E_then ?_
      refine J_seq ?_
      refine J_block ?_
      refine J_seq ?_
      refine J_region ?_
      refine V_mov (.n _) rfl rfl ?_   -- 6.0
      refine V_asg (.n _) rfl rfl ?_   -- 6.1
      refine V_sub [(0, _), (1, _), (5, _), (6, _), (7, _), (24, _), (25, _), (26, _)] ⟨rfl, rfl, rfl, rfl, rfl, rfl, rfl, rfl, trivial⟩ ?_
      refine V_nil (.inl rfl) ?_
      refine E_then ?_
      refine J_seq ?_
      refine J_drawG [0, 0, 1, 0, 0, 1, 2, 3, 0, 4, 5, 6, 8, 7, 9] (Gs := _) (cl := [.p, .p, .p, .p, .p, .p, .p, .p, .p, .e, .p, .p, .p, .p, .p]) (by kernel_rfl) (fun _ _ h => h) ?_
      refine V_mov (.s _ _ _) rfl rfl ?_   -- 7.0
      refine V_mov (.s _ _ _) rfl rfl ?_   -- 7.1
      refine V_sslcH (p := shortS xs) (.s _ _ _) Tryd.underlying9 rfl rfl (by omega) (by omega) rfl ?_   -- 7.2
      rw [show (((i : Nat) : Int)).toNat = i by simp]
      refine V_mov (.s _ _ _) rfl rfl ?_   -- 7.3
      refine V_mov (.s _ _ _) rfl rfl ?_   -- 7.4
      refine V_add (.s _ _ _) rfl rfl (wrap_ok (by omega)) rfl ?_   -- 7.5
      refine V_sslcL (p := shortS xs) (.s _ _ _) Tryd.underlying9 rfl rfl (by omega) (by omega) rfl ?_   -- 7.6
      rw [show (((i : Nat) : Int) + 1).toNat = i + 1 by omega]
      refine V_cat (.s _ _ _) rfl rfl (by simp; omega) rfl ?_   -- 7.7
      refine V_mov (.s _ _ _) rfl rfl ?_   -- 7.8
      refine V_call0 (v := .tuple #[.bool false, .int .i64 0]) (.s _ _ _) Tryd.call18 (.cons rfl (.cons rfl .nil)) (fun w1 hw1 => by
      have h := Covers_spec w1 A c ((shortS xs).take i ++ (shortS xs).drop (i + 1)) xs hl (hr.keep hw1)
      rw [tight_R hv (by omega)] at h
      exact h) rfl (fun _ _ h => h.sublist (by simp)) ?_
      refine V_mov (.s _ _ _) rfl rfl ?_   -- 7.10
      refine V_ext (.s _ _ _) rfl rfl rfl ?_   -- 7.11
      refine V_ext (.s _ _ _) rfl rfl rfl ?_   -- 7.12
      refine V_asg (.s _ _ _) rfl rfl ?_   -- 7.13
      refine V_asg (.s _ _ _) rfl rfl ?_   -- 7.14
      refine V_sub [(0, _), (1, _), (5, _), (6, _), (7, _), (8, _), (9, _), (24, _), (25, _), (26, _)] ⟨rfl, rfl, rfl, rfl, rfl, rfl, rfl, rfl, rfl, rfl, trivial⟩ ?_
      refine V_nil (.inr ⟨_, rfl⟩) ?_
      refine E_then ?_
      refine J_seq ?_
      refine J_region ?_
      refine V_mov (.n _) rfl rfl ?_   -- 8.0
      refine V_mov (.n _) rfl rfl ?_   -- 8.1
      refine V_go (1, false) rfl ?_
      refine V_mov (.n _) rfl rfl ?_   -- 8.2
      refine V_go (1, false) rfl ?_
      refine V_neq (.n _) rfl rfl rfl ?_   -- 8.3
      refine V_pickF (.n _) rfl rfl rfl ?_   -- 8.4
      refine V_sub [(0, _), (1, _), (5, _), (6, _), (7, _), (8, _), (9, _), (24, _), (25, _), (26, _), (45, _)] ⟨rfl, rfl, rfl, rfl, rfl, rfl, rfl, rfl, rfl, rfl, rfl, trivial⟩ ?_
      refine V_nil (.inl rfl) ?_
      refine E_then ?_
      refine J_condF rfl ?_
      refine J_skip ?_
      refine E_blk ?_
      refine E_then ?_
      refine J_region ?_
      refine V_add (.n _) rfl rfl (wrap_ok (by omega)) rfl ?_   -- 10.0
      refine V_mov (.n _) rfl rfl ?_   -- 10.1
      refine V_sub [(0, _), (1, _), (5, _), (6, _), (7, _), (8, _), (9, _), (24, _), (25, _), (26, _), (45, _)] ⟨rfl, rfl, rfl, rfl, rfl, rfl, rfl, rfl, rfl, rfl, rfl, trivial⟩ ?_
      refine V_nil (.inl rfl) ?_
      -- again L0 0
      refine E_again (i + 1) ?_ ?_ ?_ (fun w h => h)
      · omega
      · omega
      · refine ⟨?_, ?_, ?_, ?_, ?_, ?_, trivial⟩ <;> first | rfl | exact int_eq (by omega) | exact int_eq (by dsimp only; omega)
    · skip
      refine J_exit ?_
      refine E_then_exit ?_
      refine E_lp_exit ?_
      refine E_blk_hit ?_
      refine E_then ?_
      refine J_seq ?_
      refine J_region ?_
      refine V_mov (.n _) rfl rfl ?_   -- 11.0
      refine V_mov (.n _) rfl rfl ?_   -- 11.1
      refine V_call0 (.n _) Tryd.call18 (.cons rfl (.cons rfl .nil)) (fun w1 hw1 => Covers_spec w1 A c s xs hl (hr.keep hw1)) rfl trivial ?_   -- 11.2
      refine V_mov (.n _) rfl rfl ?_   -- 11.3
      refine V_ext (.n _) rfl rfl rfl ?_   -- 11.4
      refine V_ext (.n _) rfl rfl rfl ?_   -- 11.5
      refine V_asg (.n _) rfl rfl ?_   -- 11.6
      refine V_asg (.n _) rfl rfl ?_   -- 11.7
      refine V_sub [(0, _), (1, _), (5, _), (6, _), (10, _), (24, _), (25, _), (26, _)] ⟨rfl, rfl, rfl, rfl, rfl, rfl, rfl, rfl, trivial⟩ ?_
      refine V_nil (.inl rfl) ?_
      refine E_then ?_
      refine J_seq ?_
      refine J_region ?_
      refine V_mov (.n _) rfl rfl ?_   -- 12.0
      refine V_neq (.n _) rfl rfl rfl ?_   -- 12.1
      refine V_mov (.n _) rfl rfl ?_   -- 12.2
      refine V_split 55 rfl (fun h2 => ?_) (fun h2 => ?_)   -- guard 12.2
      · skip
        refine V_pass (.n .p) (2, false) rfl rfl ?_   -- 12.3
        refine V_pass (.n .p) (2, false) rfl rfl ?_   -- 12.4
        refine V_pickT (.n _) rfl rfl rfl ?_   -- 12.5
        refine V_mov (.n _) rfl rfl ?_   -- 12.6
        refine V_pass (.n .p) (6, false) rfl rfl ?_   -- 12.7
        refine V_pass (.n .p) (6, false) rfl rfl ?_   -- 12.8
        refine V_pass (.n .p) (6, false) rfl rfl ?_   -- 12.9
        refine V_pass (.n .p) (6, false) rfl rfl ?_   -- 12.10
        refine V_pass (.n .p) (6, false) rfl rfl ?_   -- 12.11
        refine V_pickT (.n _) rfl rfl rfl ?_   -- 12.12
        refine V_mov (.n _) rfl rfl ?_   -- 12.13
        refine V_pass (.n .p) (13, false) rfl rfl ?_   -- 12.14
        refine V_pass (.n .p) (13, false) rfl rfl ?_   -- 12.15
        refine V_pass (.n .p) (13, false) rfl rfl ?_   -- 12.16
        refine V_pass (.n .p) (13, false) rfl rfl ?_   -- 12.17
        refine V_pass (.n .p) (13, false) rfl rfl ?_   -- 12.18
        refine V_pass (.n .p) (13, false) rfl rfl ?_   -- 12.19
        refine V_pass (.n .p) (19, true) rfl rfl ?_   -- 12.20
        refine V_pass (.n .p) (19, true) rfl rfl ?_   -- 12.21
        refine V_pass (.n .p) (19, true) rfl rfl ?_   -- 12.22
        refine V_pass (.n .p) (13, false) rfl rfl ?_   -- 12.23
        refine V_pickT (.n _) rfl rfl rfl ?_   -- 12.24
        refine V_mov (.n _) rfl rfl ?_   -- 12.25
        refine V_go (25, true) rfl ?_
        refine V_call0 (.n _) Tryd.call17 .nil (fun w1 hw1 => awake_spec w1) rfl trivial ?_   -- 12.26
        refine V_pickT (.n _) rfl rfl rfl ?_   -- 12.27
        refine V_asg (.n _) rfl rfl ?_   -- 12.28
        refine V_sub [(0, _), (1, _), (4, _), (5, _), (6, _), (10, _), (24, _), (25, _), (26, _)] ⟨rfl, rfl, rfl, rfl, rfl, rfl, rfl, rfl, rfl, trivial⟩ ?_
        refine V_nil (.inl rfl) ?_
        refine E_then ?_
        refine J_ret ?_
        -- return R0
        refine E_ret1 Tryd.results3 rfl (fun w hw => ?_)
        exact ⟨rfl, hw⟩
      · skip
        refine V_go (2, false) rfl ?_
        refine V_mov (.n _) rfl rfl ?_   -- 12.3
        refine V_go (2, false) rfl ?_
        refine V_notB (.n _) rfl rfl ?_   -- 12.4
        refine V_pickF (.n _) rfl rfl rfl ?_   -- 12.5
        refine V_mov (.n _) rfl rfl ?_   -- 12.6
        refine V_splitB 59 rfl (fun h3 => ?_) (fun h3 => ?_)   -- guard 12.6
        · skip
          refine V_pass (.n .p) (6, false) rfl rfl ?_   -- 12.7
          refine V_pass (.n .p) (6, false) rfl rfl ?_   -- 12.8
          refine V_pass (.n .p) (6, false) rfl rfl ?_   -- 12.9
          refine V_pass (.n .p) (6, false) rfl rfl ?_   -- 12.10
          refine V_pass (.n .p) (6, false) rfl rfl ?_   -- 12.11
          refine V_pickT (.n _) rfl rfl rfl ?_   -- 12.12
          refine V_mov (.n _) rfl rfl ?_   -- 12.13
          refine V_pass (.n .p) (13, false) rfl rfl ?_   -- 12.14
          refine V_pass (.n .p) (13, false) rfl rfl ?_   -- 12.15
          refine V_pass (.n .p) (13, false) rfl rfl ?_   -- 12.16
          refine V_pass (.n .p) (13, false) rfl rfl ?_   -- 12.17
          refine V_pass (.n .p) (13, false) rfl rfl ?_   -- 12.18
          refine V_pass (.n .p) (13, false) rfl rfl ?_   -- 12.19
          refine V_pass (.n .p) (19, true) rfl rfl ?_   -- 12.20
          refine V_pass (.n .p) (19, true) rfl rfl ?_   -- 12.21
          refine V_pass (.n .p) (19, true) rfl rfl ?_   -- 12.22
          refine V_pass (.n .p) (13, false) rfl rfl ?_   -- 12.23
          refine V_pickT (.n _) rfl rfl rfl ?_   -- 12.24
          refine V_mov (.n _) rfl rfl ?_   -- 12.25
          refine V_go (25, true) rfl ?_
          refine V_call0 (.n _) Tryd.call17 .nil (fun w1 hw1 => awake_spec w1) rfl trivial ?_   -- 12.26
          refine V_pickT (.n _) rfl rfl rfl ?_   -- 12.27
          refine V_asg (.n _) rfl rfl ?_   -- 12.28
          refine V_sub [(0, _), (1, _), (4, _), (5, _), (6, _), (10, _), (24, _), (25, _), (26, _)] ⟨rfl, rfl, rfl, rfl, rfl, rfl, rfl, rfl, rfl, trivial⟩ ?_
          refine V_nil (.inl rfl) ?_
          refine E_then ?_
          refine J_ret ?_
          -- return R1
          refine E_ret1 Tryd.results3 rfl (fun w hw => ?_)
          exact ⟨rfl, hw⟩
        · have hcov : covers s xs = true := coversR_ok (by simp_all) (by simp_all)
          have hlst := short_least hv hcov
          refine V_go (6, false) rfl ?_
          refine V_mov (.n _) rfl rfl ?_   -- 12.7
          refine V_go (6, false) rfl ?_
          refine V_slen (.n _) Tryd.underlying9 rfl rfl ?_   -- 12.8
          refine V_go (6, false) rfl ?_
          refine V_mov (.n _) rfl rfl ?_   -- 12.9
          refine V_go (6, false) rfl ?_
          refine V_slen (.n _) Tryd.underlying9 rfl rfl ?_   -- 12.10
          refine V_go (6, false) rfl ?_
          refine V_gtr (.n _) rfl rfl rfl ?_   -- 12.11
          refine V_pickF (.n _) rfl rfl rfl ?_   -- 12.12
          refine V_mov (.n _) rfl rfl ?_   -- 12.13
          refine V_split 66 rfl (fun h4 => ?_) (fun h4 => ?_)   -- guard 12.13
          · skip
            refine V_pass (.n .p) (13, false) rfl rfl ?_   -- 12.14
            refine V_pass (.n .p) (13, false) rfl rfl ?_   -- 12.15
            refine V_pass (.n .p) (13, false) rfl rfl ?_   -- 12.16
            refine V_pass (.n .p) (13, false) rfl rfl ?_   -- 12.17
            refine V_pass (.n .p) (13, false) rfl rfl ?_   -- 12.18
            refine V_pass (.n .p) (13, false) rfl rfl ?_   -- 12.19
            refine V_pass (.n .p) (19, true) rfl rfl ?_   -- 12.20
            refine V_pass (.n .p) (19, true) rfl rfl ?_   -- 12.21
            refine V_pass (.n .p) (19, true) rfl rfl ?_   -- 12.22
            refine V_pass (.n .p) (13, false) rfl rfl ?_   -- 12.23
            refine V_pickT (.n _) rfl rfl rfl ?_   -- 12.24
            refine V_mov (.n _) rfl rfl ?_   -- 12.25
            refine V_go (25, true) rfl ?_
            refine V_call0 (.n _) Tryd.call17 .nil (fun w1 hw1 => awake_spec w1) rfl trivial ?_   -- 12.26
            refine V_pickT (.n _) rfl rfl rfl ?_   -- 12.27
            refine V_asg (.n _) rfl rfl ?_   -- 12.28
            refine V_sub [(0, _), (1, _), (4, _), (5, _), (6, _), (10, _), (24, _), (25, _), (26, _)] ⟨rfl, rfl, rfl, rfl, rfl, rfl, rfl, rfl, rfl, trivial⟩ ?_
            refine V_nil (.inl rfl) ?_
            refine E_then ?_
            refine J_ret ?_
            -- return R2
            refine E_ret1 Tryd.results3 rfl (fun w hw => ?_)
            exact ⟨rfl, hw⟩
          · skip
            refine V_go (13, false) rfl ?_
            refine V_mov (.n _) rfl rfl ?_   -- 12.14
            refine V_go (13, false) rfl ?_
            refine V_slen (.n _) Tryd.underlying9 rfl rfl ?_   -- 12.15
            refine V_go (13, false) rfl ?_
            refine V_mov (.n _) rfl rfl ?_   -- 12.16
            refine V_go (13, false) rfl ?_
            refine V_slen (.n _) Tryd.underlying9 rfl rfl ?_   -- 12.17
            refine V_go (13, false) rfl ?_
            refine V_eql (.n _) rfl rfl rfl ?_   -- 12.18
            refine V_go (13, false) rfl ?_
            refine V_mov (.n _) rfl rfl ?_   -- 12.19
            refine V_split 72 rfl (fun h5 => ?_) (fun h5 => ?_)   -- guard 12.19
            · skip
              refine V_go (19, true) rfl ?_
              refine V_mov (.n _) rfl rfl ?_   -- 12.20
              refine V_go (19, true) rfl ?_
              refine V_mov (.n _) rfl rfl ?_   -- 12.21
              refine V_go (19, true) rfl ?_
              have hfirst := short_first hv hcov (by omega)
              refine V_sleq (.n _) rfl rfl rfl ?_   -- 12.22
              rw [hfirst]
              refine V_go (13, false) rfl ?_
              refine V_pickT (.n _) rfl rfl rfl ?_   -- 12.23
              refine V_pickF (.n _) rfl rfl rfl ?_   -- 12.24
              refine V_mov (.n _) rfl rfl ?_   -- 12.25
              refine V_go (25, true) rfl ?_
              refine V_call0 (.n _) Tryd.call17 .nil (fun w1 hw1 => awake_spec w1) rfl trivial ?_   -- 12.26
              refine V_pickT (.n _) rfl rfl rfl ?_   -- 12.27
              refine V_asg (.n _) rfl rfl ?_   -- 12.28
              refine V_sub [(0, _), (1, _), (4, _), (5, _), (6, _), (10, _), (24, _), (25, _), (26, _)] ⟨rfl, rfl, rfl, rfl, rfl, rfl, rfl, rfl, rfl, trivial⟩ ?_
              refine V_nil (.inl rfl) ?_
              refine E_then ?_
              refine J_ret ?_
              -- return R3
              refine E_ret1 Tryd.results3 rfl (fun w hw => ?_)
              exact ⟨rfl, hw⟩
            · exact absurd (by omega) h5


theorem tight_spec (w : World) (A : Option Addr) (c : Nat) (s : List UInt8) (xs : List (List UInt8)) (hl : xs.length ≤ 140737488351232) (hs : s.length ≤ 140737488351232) (hr : Rd w A (Ss xs)) :
    Calls Tryd.prog 3 #[.slice A xs.length c, .string ⟨s.toArray⟩] w fun e w' => e = .returned (.bool true) ∧ St w [] w' := by
  cases hv : validW xs with
  | true => exact tight_yes w A c s xs hl hs hr hv
  | false => exact tight_no w A c s xs hl hs hr hv

end Go.Proofs.YtgeahmmepfmcoaaDoor
