/- parts of the proofs of the bath statements -/
import Derived.Test.YtgeahmmepfmcoaaDoorCount
namespace Go.Proofs.YtgeahmmepfmcoaaDoor
open Go Go.RowKit L
set_option linter.unusedVariables false
set_option linter.unusedSimpArgs false

theorem shortlaw_yes (w : World) (A : Option Addr) (c : Nat) (s : List UInt8) (xs : List (List UInt8)) (hl : xs.length ≤ 140737488351232) (hs : s.length ≤ 140737488351232) (hr : Rd w A (Ss xs)) (hv : validW xs = true) :
    Calls Tryd.prog 8 #[.string ⟨s.toArray⟩, .slice A xs.length c] w fun e w' => e = .returned (.bool true) ∧ St w [] w' := by
  refine calls (args := [.string ⟨s.toArray⟩, .slice A xs.length c]) Tryd.func8 rfl Tryd.ntmps8 (Nat.le_of_ble_eq_true rfl) (St.refl w) ?_
  refine J_seq ?_
  refine J_region ?_
  refine V_asg (.n _) rfl rfl ?_   -- 0.0
  refine V_sub [(0, _), (1, _), (4, _)] ⟨rfl, rfl, rfl, trivial⟩ ?_
  refine V_nil (.inl rfl) ?_
  refine E_then ?_
  refine J_seq ?_
  refine J_region ?_
  refine V_mov (.n _) rfl rfl ?_   -- 1.0
  refine V_mov (.n _) rfl rfl ?_   -- 1.1
  refine V_call0 (.n _) Tryd.call18 (.cons rfl (.cons rfl .nil)) (fun w1 hw1 => Covers_spec w1 A c s xs hl (hr.keep hw1)) rfl trivial ?_   -- 1.2
  refine V_mov (.n _) rfl rfl ?_   -- 1.3
  refine V_ext (.n _) rfl rfl rfl ?_   -- 1.4
  refine V_ext (.n _) rfl rfl rfl ?_   -- 1.5
  refine V_asg (.n _) rfl rfl ?_   -- 1.6
  refine V_asg (.n _) rfl rfl ?_   -- 1.7
  refine V_sub [(0, _), (1, _), (4, _), (5, _), (6, _)] ⟨rfl, rfl, rfl, rfl, rfl, trivial⟩ ?_
  refine V_nil (.inl rfl) ?_
  refine E_then ?_
  refine J_seq ?_
  refine J_region ?_
  refine V_mov (.n _) rfl rfl ?_   -- 2.0
  refine V_mov (.n _) rfl rfl ?_   -- 2.1
  refine V_call0 (.n _) Tryd.call27 (.cons rfl (.cons rfl .nil)) (fun w1 hw1 => RefCovers_spec w1 A c s xs hl hs (hr.keep hw1)) rfl trivial ?_   -- 2.2
  refine V_mov (.n _) rfl rfl ?_   -- 2.3
  refine V_ext (.n _) rfl rfl rfl ?_   -- 2.4
  refine V_ext (.n _) rfl rfl rfl ?_   -- 2.5
  refine V_asg (.n _) rfl rfl ?_   -- 2.6
  refine V_asg (.n _) rfl rfl ?_   -- 2.7
  refine V_sub [(0, _), (1, _), (4, _), (5, _), (6, _), (7, _), (8, _)] ⟨rfl, rfl, rfl, rfl, rfl, rfl, rfl, trivial⟩ ?_
  refine V_nil (.inl rfl) ?_
  refine E_then ?_
  refine J_seq ?_
  refine J_seq ?_
  refine J_region ?_
  refine V_mov (.n _) rfl rfl ?_   -- 3.0
  refine V_mov (.n _) rfl rfl ?_   -- 3.1
  refine V_bneq (.n _) Tryd.underlying4 rfl rfl rfl ?_   -- 3.2
  refine V_mov (.n _) rfl rfl ?_   -- 3.3
  refine V_split 30 rfl (fun h1 => ?_) (fun h1 => ?_)   -- guard 3.3
  · exact absurd rfl h1
  · skip
    refine V_go (3, false) rfl ?_
    refine V_mov (.n _) rfl rfl ?_   -- 3.4
    refine V_go (3, false) rfl ?_
    refine V_mov (.n _) rfl rfl ?_   -- 3.5
    refine V_go (3, false) rfl ?_
    refine V_neq (.n _) rfl rfl rfl ?_   -- 3.6
    refine V_pickF (.n _) rfl rfl rfl ?_   -- 3.7
    refine V_mov (.n _) rfl rfl ?_   -- 3.8
    refine V_split 35 rfl (fun h2 => ?_) (fun h2 => ?_)   -- guard 3.8
    · exact absurd rfl h2
    · skip
      refine V_go (8, false) rfl ?_
      refine V_call0 (.n _) Tryd.call17 .nil (fun w1 hw1 => awake_spec w1) rfl trivial ?_   -- 3.9
      refine V_go (8, false) rfl ?_
      refine V_notB (.n _) rfl rfl ?_   -- 3.10
      refine V_pickF (.n _) rfl rfl rfl ?_   -- 3.11
      refine V_sub [(0, _), (1, _), (4, _), (5, _), (6, _), (7, _), (8, _), (38, _)] ⟨rfl, rfl, rfl, rfl, rfl, rfl, rfl, rfl, trivial⟩ ?_
      refine V_nil (.inl rfl) ?_
      refine E_then ?_
      refine J_condF rfl ?_
      refine J_skip ?_
      refine E_then ?_
      refine J_seq ?_
      refine J_region ?_
      refine V_mov (.n _) rfl rfl ?_   -- 5.0
      refine V_call0 (.n _) Tryd.call16 (.cons rfl .nil) (fun w1 hw1 => Shortest_yes w1 A c xs hl (hr.keep hw1) hv) rfl trivial ?_   -- 5.1
      refine V_mov (.n _) rfl rfl ?_   -- 5.2
      refine V_ext (.n _) rfl rfl rfl ?_   -- 5.3
      refine V_ext (.n _) rfl rfl rfl ?_   -- 5.4
      refine V_asg (.n _) rfl rfl ?_   -- 5.5
      refine V_asg (.n _) rfl rfl ?_   -- 5.6
      refine V_sub [(0, _), (1, _), (4, _), (5, _), (6, _), (7, _), (8, _), (9, _), (38, _)] ⟨rfl, rfl, rfl, rfl, rfl, rfl, rfl, rfl, rfl, trivial⟩ ?_
      refine V_nil (.inl rfl) ?_
      refine E_then ?_
      refine J_seq ?_
      refine J_region ?_
      refine V_mov (.n _) rfl rfl ?_   -- 6.0
      refine V_call0 (.n _) Tryd.call28 (.cons rfl .nil) (fun w1 hw1 => RefShortest_yes w1 A c xs hl (hr.keep hw1) hv) rfl trivial ?_   -- 6.1
      refine V_mov (.n _) rfl rfl ?_   -- 6.2
      refine V_ext (.n _) rfl rfl rfl ?_   -- 6.3
      refine V_ext (.n _) rfl rfl rfl ?_   -- 6.4
      refine V_asg (.n _) rfl rfl ?_   -- 6.5
      refine V_asg (.n _) rfl rfl ?_   -- 6.6
      refine V_sub [(0, _), (1, _), (4, _), (5, _), (6, _), (7, _), (8, _), (9, _), (10, _), (38, _)] ⟨rfl, rfl, rfl, rfl, rfl, rfl, rfl, rfl, rfl, rfl, trivial⟩ ?_
      refine V_nil (.inl rfl) ?_
      refine E_then ?_
      refine J_seq ?_
      refine J_region ?_
      refine V_mov (.n _) rfl rfl ?_   -- 7.0
      refine V_call0 (.n _) Tryd.call29 (.cons rfl .nil) (fun w1 hw1 => Count_yes w1 A c xs hl (hr.keep hw1) hv) rfl trivial ?_   -- 7.1
      refine V_mov (.n _) rfl rfl ?_   -- 7.2
      refine V_ext (.n _) rfl rfl rfl ?_   -- 7.3
      refine V_ext (.n _) rfl rfl rfl ?_   -- 7.4
      refine V_asg (.n _) rfl rfl ?_   -- 7.5
      refine V_asg (.n _) rfl rfl ?_   -- 7.6
      refine V_sub [(0, _), (1, _), (4, _), (5, _), (6, _), (7, _), (8, _), (9, _), (10, _), (11, _), (12, _), (38, _)] ⟨rfl, rfl, rfl, rfl, rfl, rfl, rfl, rfl, rfl, rfl, rfl, rfl, trivial⟩ ?_
      refine V_nil (.inl rfl) ?_
      refine E_then ?_
      refine J_seq ?_
      refine J_region ?_
      refine V_mov (.n _) rfl rfl ?_   -- 8.0
      refine V_call0 (.n _) Tryd.call30 (.cons rfl .nil) (fun w1 hw1 => RefCount_yes w1 A c xs hl (hr.keep hw1) hv) rfl trivial ?_   -- 8.1
      refine V_mov (.n _) rfl rfl ?_   -- 8.2
      refine V_ext (.n _) rfl rfl rfl ?_   -- 8.3
      refine V_ext (.n _) rfl rfl rfl ?_   -- 8.4
      refine V_asg (.n _) rfl rfl ?_   -- 8.5
      refine V_asg (.n _) rfl rfl ?_   -- 8.6
      refine V_sub [(0, _), (1, _), (4, _), (5, _), (6, _), (7, _), (8, _), (9, _), (10, _), (11, _), (12, _), (13, _), (14, _), (38, _)] ⟨rfl, rfl, rfl, rfl, rfl, rfl, rfl, rfl, rfl, rfl, rfl, rfl, rfl, rfl, trivial⟩ ?_
      refine V_nil (.inl rfl) ?_
      refine E_then ?_
      refine J_seq ?_
      refine J_region ?_
      refine V_mov (.n _) rfl rfl ?_   -- 9.0
      refine V_mov (.n _) rfl rfl ?_   -- 9.1
      refine V_seql (.n _) rfl rfl rfl ?_   -- 9.2
      refine V_mov (.n _) rfl rfl ?_   -- 9.3
      refine V_split 62 rfl (fun h3 => ?_) (fun h3 => ?_)   -- guard 9.3
      · skip
        refine V_go (3, true) rfl ?_
        refine V_mov (.n _) rfl rfl ?_   -- 9.4
        refine V_go (3, true) rfl ?_
        refine V_mov (.n _) rfl rfl ?_   -- 9.5
        refine V_go (3, true) rfl ?_
        refine V_eql (.n _) rfl rfl rfl ?_   -- 9.6
        refine V_pickT (.n _) rfl rfl rfl ?_   -- 9.7
        refine V_mov (.n _) rfl rfl ?_   -- 9.8
        refine V_split 67 rfl (fun h4 => ?_) (fun h4 => ?_)   -- guard 9.8
        · skip
          refine V_go (8, true) rfl ?_
          refine V_mov (.n _) rfl rfl ?_   -- 9.9
          refine V_go (8, true) rfl ?_
          refine V_mov (.n _) rfl rfl ?_   -- 9.10
          refine V_go (8, true) rfl ?_
          refine V_eql (.n _) rfl rfl rfl ?_   -- 9.11
          refine V_pickT (.n _) rfl rfl rfl ?_   -- 9.12
          refine V_mov (.n _) rfl rfl ?_   -- 9.13
          refine V_split 72 rfl (fun h5 => ?_) (fun h5 => ?_)   -- guard 9.13
          · skip
            refine V_go (13, true) rfl ?_
            refine V_mov (.n _) rfl rfl ?_   -- 9.14
            refine V_go (13, true) rfl ?_
            refine V_mov (.n _) rfl rfl ?_   -- 9.15
            refine V_go (13, true) rfl ?_
            refine V_eql (.n _) rfl rfl rfl ?_   -- 9.16
            refine V_pickT (.n _) rfl rfl rfl ?_   -- 9.17
            refine V_asg (.n _) rfl rfl ?_   -- 9.18
            refine V_sub [(0, _), (1, _), (4, _), (5, _), (6, _), (7, _), (8, _), (9, _), (10, _), (11, _), (12, _), (13, _), (14, _), (38, _)] ⟨rfl, rfl, rfl, rfl, rfl, rfl, rfl, rfl, rfl, rfl, rfl, rfl, rfl, rfl, trivial⟩ ?_
            refine V_nil (.inl rfl) ?_
            refine E_then ?_
            refine J_ret ?_
            -- return R0
            refine E_ret1 Tryd.results8 rfl (fun w hw => ?_)
            exact ⟨rfl, hw⟩
          · exact absurd rfl h5
        · exact absurd rfl h4
      · exact absurd rfl h3

theorem shortlaw_no (w : World) (A : Option Addr) (c : Nat) (s : List UInt8) (xs : List (List UInt8)) (hl : xs.length ≤ 140737488351232) (hs : s.length ≤ 140737488351232) (hr : Rd w A (Ss xs)) (hv : validW xs = false) :
    Calls Tryd.prog 8 #[.string ⟨s.toArray⟩, .slice A xs.length c] w fun e w' => e = .returned (.bool true) ∧ St w [] w' := by
  refine calls (args := [.string ⟨s.toArray⟩, .slice A xs.length c]) Tryd.func8 rfl Tryd.ntmps8 (Nat.le_of_ble_eq_true rfl) (St.refl w) ?_
  refine J_seq ?_
  refine J_region ?_
  refine V_asg (.n _) rfl rfl ?_   -- 0.0
  refine V_sub [(0, _), (1, _), (4, _)] ⟨rfl, rfl, rfl, trivial⟩ ?_
  refine V_nil (.inl rfl) ?_
  refine E_then ?_
  refine J_seq ?_
  refine J_region ?_
  refine V_mov (.n _) rfl rfl ?_   -- 1.0
  refine V_mov (.n _) rfl rfl ?_   -- 1.1
  refine V_call0 (.n _) Tryd.call18 (.cons rfl (.cons rfl .nil)) (fun w1 hw1 => Covers_spec w1 A c s xs hl (hr.keep hw1)) rfl trivial ?_   -- 1.2
  refine V_mov (.n _) rfl rfl ?_   -- 1.3
  refine V_ext (.n _) rfl rfl rfl ?_   -- 1.4
  refine V_ext (.n _) rfl rfl rfl ?_   -- 1.5
  refine V_asg (.n _) rfl rfl ?_   -- 1.6
  refine V_asg (.n _) rfl rfl ?_   -- 1.7
  refine V_sub [(0, _), (1, _), (4, _), (5, _), (6, _)] ⟨rfl, rfl, rfl, rfl, rfl, trivial⟩ ?_
  refine V_nil (.inl rfl) ?_
  refine E_then ?_
  refine J_seq ?_
  refine J_region ?_
  refine V_mov (.n _) rfl rfl ?_   -- 2.0
  refine V_mov (.n _) rfl rfl ?_   -- 2.1
  refine V_call0 (.n _) Tryd.call27 (.cons rfl (.cons rfl .nil)) (fun w1 hw1 => RefCovers_spec w1 A c s xs hl hs (hr.keep hw1)) rfl trivial ?_   -- 2.2
  refine V_mov (.n _) rfl rfl ?_   -- 2.3
  refine V_ext (.n _) rfl rfl rfl ?_   -- 2.4
  refine V_ext (.n _) rfl rfl rfl ?_   -- 2.5
  refine V_asg (.n _) rfl rfl ?_   -- 2.6
  refine V_asg (.n _) rfl rfl ?_   -- 2.7
  refine V_sub [(0, _), (1, _), (4, _), (5, _), (6, _), (7, _), (8, _)] ⟨rfl, rfl, rfl, rfl, rfl, rfl, rfl, trivial⟩ ?_
  refine V_nil (.inl rfl) ?_
  refine E_then ?_
  refine J_seq ?_
  refine J_seq ?_
  refine J_region ?_
  refine V_mov (.n _) rfl rfl ?_   -- 3.0
  refine V_mov (.n _) rfl rfl ?_   -- 3.1
  refine V_bneq (.n _) Tryd.underlying4 rfl rfl rfl ?_   -- 3.2
  refine V_mov (.n _) rfl rfl ?_   -- 3.3
  refine V_split 30 rfl (fun h1 => ?_) (fun h1 => ?_)   -- guard 3.3
  · exact absurd rfl h1
  · skip
    refine V_go (3, false) rfl ?_
    refine V_mov (.n _) rfl rfl ?_   -- 3.4
    refine V_go (3, false) rfl ?_
    refine V_mov (.n _) rfl rfl ?_   -- 3.5
    refine V_go (3, false) rfl ?_
    refine V_neq (.n _) rfl rfl rfl ?_   -- 3.6
    refine V_pickF (.n _) rfl rfl rfl ?_   -- 3.7
    refine V_mov (.n _) rfl rfl ?_   -- 3.8
    refine V_split 35 rfl (fun h2 => ?_) (fun h2 => ?_)   -- guard 3.8
    · exact absurd rfl h2
    · skip
      refine V_go (8, false) rfl ?_
      refine V_call0 (.n _) Tryd.call17 .nil (fun w1 hw1 => awake_spec w1) rfl trivial ?_   -- 3.9
      refine V_go (8, false) rfl ?_
      refine V_notB (.n _) rfl rfl ?_   -- 3.10
      refine V_pickF (.n _) rfl rfl rfl ?_   -- 3.11
      refine V_sub [(0, _), (1, _), (4, _), (5, _), (6, _), (7, _), (8, _), (38, _)] ⟨rfl, rfl, rfl, rfl, rfl, rfl, rfl, rfl, trivial⟩ ?_
      refine V_nil (.inl rfl) ?_
      refine E_then ?_
      refine J_condF rfl ?_
      refine J_skip ?_
      refine E_then ?_
      refine J_seq ?_
      refine J_region ?_
      refine V_mov (.n _) rfl rfl ?_   -- 5.0
      refine V_call0 (.n _) Tryd.call16 (.cons rfl .nil) (fun w1 hw1 => Shortest_no w1 A c xs hl (hr.keep hw1) hv) rfl trivial ?_   -- 5.1
      refine V_mov (.n _) rfl rfl ?_   -- 5.2
      refine V_ext (.n _) rfl rfl rfl ?_   -- 5.3
      refine V_ext (.n _) rfl rfl rfl ?_   -- 5.4
      refine V_asg (.n _) rfl rfl ?_   -- 5.5
      refine V_asg (.n _) rfl rfl ?_   -- 5.6
      refine V_sub [(0, _), (1, _), (4, _), (5, _), (6, _), (7, _), (8, _), (9, _), (38, _)] ⟨rfl, rfl, rfl, rfl, rfl, rfl, rfl, rfl, rfl, trivial⟩ ?_
      refine V_nil (.inl rfl) ?_
      refine E_then ?_
      refine J_seq ?_
      refine J_region ?_
      refine V_mov (.n _) rfl rfl ?_   -- 6.0
      refine V_call0 (.n _) Tryd.call28 (.cons rfl .nil) (fun w1 hw1 => RefShortest_no w1 A c xs hl (hr.keep hw1) hv) rfl trivial ?_   -- 6.1
      refine V_mov (.n _) rfl rfl ?_   -- 6.2
      refine V_ext (.n _) rfl rfl rfl ?_   -- 6.3
      refine V_ext (.n _) rfl rfl rfl ?_   -- 6.4
      refine V_asg (.n _) rfl rfl ?_   -- 6.5
      refine V_asg (.n _) rfl rfl ?_   -- 6.6
      refine V_sub [(0, _), (1, _), (4, _), (5, _), (6, _), (7, _), (8, _), (9, _), (10, _), (38, _)] ⟨rfl, rfl, rfl, rfl, rfl, rfl, rfl, rfl, rfl, rfl, trivial⟩ ?_
      refine V_nil (.inl rfl) ?_
      refine E_then ?_
      refine J_seq ?_
      refine J_region ?_
      refine V_mov (.n _) rfl rfl ?_   -- 7.0
      refine V_call0 (.n _) Tryd.call29 (.cons rfl .nil) (fun w1 hw1 => Count_no w1 A c xs hl (hr.keep hw1) hv) rfl trivial ?_   -- 7.1
      refine V_mov (.n _) rfl rfl ?_   -- 7.2
      refine V_ext (.n _) rfl rfl rfl ?_   -- 7.3
      refine V_ext (.n _) rfl rfl rfl ?_   -- 7.4
      refine V_asg (.n _) rfl rfl ?_   -- 7.5
      refine V_asg (.n _) rfl rfl ?_   -- 7.6
      refine V_sub [(0, _), (1, _), (4, _), (5, _), (6, _), (7, _), (8, _), (9, _), (10, _), (11, _), (12, _), (38, _)] ⟨rfl, rfl, rfl, rfl, rfl, rfl, rfl, rfl, rfl, rfl, rfl, rfl, trivial⟩ ?_
      refine V_nil (.inl rfl) ?_
      refine E_then ?_
      refine J_seq ?_
      refine J_region ?_
      refine V_mov (.n _) rfl rfl ?_   -- 8.0
      refine V_call0 (.n _) Tryd.call30 (.cons rfl .nil) (fun w1 hw1 => RefCount_no w1 A c xs hl (hr.keep hw1) hv) rfl trivial ?_   -- 8.1
      refine V_mov (.n _) rfl rfl ?_   -- 8.2
      refine V_ext (.n _) rfl rfl rfl ?_   -- 8.3
      refine V_ext (.n _) rfl rfl rfl ?_   -- 8.4
      refine V_asg (.n _) rfl rfl ?_   -- 8.5
      refine V_asg (.n _) rfl rfl ?_   -- 8.6
      refine V_sub [(0, _), (1, _), (4, _), (5, _), (6, _), (7, _), (8, _), (9, _), (10, _), (11, _), (12, _), (13, _), (14, _), (38, _)] ⟨rfl, rfl, rfl, rfl, rfl, rfl, rfl, rfl, rfl, rfl, rfl, rfl, rfl, rfl, trivial⟩ ?_
      refine V_nil (.inl rfl) ?_
      refine E_then ?_
      refine J_seq ?_
      refine J_region ?_
      refine V_mov (.n _) rfl rfl ?_   -- 9.0
      refine V_mov (.n _) rfl rfl ?_   -- 9.1
      refine V_seql (.n _) rfl rfl rfl ?_   -- 9.2
      refine V_mov (.n _) rfl rfl ?_   -- 9.3
      refine V_split 62 rfl (fun h3 => ?_) (fun h3 => ?_)   -- guard 9.3
      · skip
        refine V_go (3, true) rfl ?_
        refine V_mov (.n _) rfl rfl ?_   -- 9.4
        refine V_go (3, true) rfl ?_
        refine V_mov (.n _) rfl rfl ?_   -- 9.5
        refine V_go (3, true) rfl ?_
        refine V_eql (.n _) rfl rfl rfl ?_   -- 9.6
        refine V_pickT (.n _) rfl rfl rfl ?_   -- 9.7
        refine V_mov (.n _) rfl rfl ?_   -- 9.8
        refine V_split 67 rfl (fun h4 => ?_) (fun h4 => ?_)   -- guard 9.8
        · skip
          refine V_go (8, true) rfl ?_
          refine V_mov (.n _) rfl rfl ?_   -- 9.9
          refine V_go (8, true) rfl ?_
          refine V_mov (.n _) rfl rfl ?_   -- 9.10
          refine V_go (8, true) rfl ?_
          refine V_eql (.n _) rfl rfl rfl ?_   -- 9.11
          refine V_pickT (.n _) rfl rfl rfl ?_   -- 9.12
          refine V_mov (.n _) rfl rfl ?_   -- 9.13
          refine V_split 72 rfl (fun h5 => ?_) (fun h5 => ?_)   -- guard 9.13
          · skip
            refine V_go (13, true) rfl ?_
            refine V_mov (.n _) rfl rfl ?_   -- 9.14
            refine V_go (13, true) rfl ?_
            refine V_mov (.n _) rfl rfl ?_   -- 9.15
            refine V_go (13, true) rfl ?_
            refine V_eql (.n _) rfl rfl rfl ?_   -- 9.16
            refine V_pickT (.n _) rfl rfl rfl ?_   -- 9.17
            refine V_asg (.n _) rfl rfl ?_   -- 9.18
            refine V_sub [(0, _), (1, _), (4, _), (5, _), (6, _), (7, _), (8, _), (9, _), (10, _), (11, _), (12, _), (13, _), (14, _), (38, _)] ⟨rfl, rfl, rfl, rfl, rfl, rfl, rfl, rfl, rfl, rfl, rfl, rfl, rfl, rfl, trivial⟩ ?_
            refine V_nil (.inl rfl) ?_
            refine E_then ?_
            refine J_ret ?_
            -- return R0
            refine E_ret1 Tryd.results8 rfl (fun w hw => ?_)
            exact ⟨rfl, hw⟩
          · exact absurd rfl h5
        · exact absurd rfl h4
      · exact absurd rfl h3


theorem shortlaw_spec (w : World) (A : Option Addr) (c : Nat) (s : List UInt8) (xs : List (List UInt8)) (hl : xs.length ≤ 140737488351232) (hs : s.length ≤ 140737488351232) (hr : Rd w A (Ss xs)) :
    Calls Tryd.prog 8 #[.string ⟨s.toArray⟩, .slice A xs.length c] w fun e w' => e = .returned (.bool true) ∧ St w [] w' := by
  cases hv : validW xs with
  | true => exact shortlaw_yes w A c s xs hl hs hr hv
  | false => exact shortlaw_no w A c s xs hl hs hr hv

end Go.Proofs.YtgeahmmepfmcoaaDoor
