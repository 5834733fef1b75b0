/- parts of the proofs of the bath statements -/
import Derived.Test.YtgeahmmepfmcoaaDoorShort
namespace Go.Proofs.YtgeahmmepfmcoaaDoor
open Go Go.RowKit L
set_option linter.unusedVariables false
set_option linter.unusedSimpArgs false

theorem tables_yes (w : World) (A A2 : Option Addr) (c c2 : Nat) (xs : List (List UInt8)) (ds : List Int) (hl : xs.length ≤ 140737488351232) (hl2 : ds.length ≤ 140737488351232) (hr : Rd w A (Ss xs)) (hd : Rd w A2 (I ds)) (hv : validW xs = true) :
    Calls Tryd.prog 7 #[.slice A xs.length c, .slice A2 ds.length c2] w fun e w' => e = .returned (.bool true) ∧ St w [] w' := by
  have hN : posN xs ≤ 6561 := posN_le hv
  refine calls (args := [.slice A xs.length c, .slice A2 ds.length c2]) Tryd.func7 rfl Tryd.ntmps7 (Nat.le_of_ble_eq_true rfl) (St.refl w) ?_
  refine J_seq ?_
  refine J_region ?_
  refine V_asg (.n _) rfl rfl ?_   -- 0.0
  refine V_sub [(0, _), (1, _), (4, _)] ⟨rfl, rfl, rfl, trivial⟩ ?_
  refine V_nil (.inl rfl) ?_
  refine E_then ?_
  refine J_seq ?_
  refine J_region ?_
  refine V_mov (.n _) rfl rfl ?_   -- 1.0
  refine V_call (post := fun v D => ∃ b, v = .tuple #[.slice (some ⟨b, 0, none⟩) (posN xs) (posN xs), .int .i64 0] ∧ .c b 3 (I (tableOf xs)) ∈ D) (.n _) Tryd.call22 (.cons rfl .nil) (fun w1 hw1 => Table_yes w1 A c xs hl (hr.keep hw1) hv) rfl trivial ?_
  rintro v D1 ⟨b1, rfl, hD1⟩
  refine V_mov (.n _) rfl rfl ?_   -- 1.2
  refine V_ext (.n _) rfl rfl rfl ?_   -- 1.3
  refine V_ext (.n _) rfl rfl rfl ?_   -- 1.4
  refine V_asg (.n _) rfl rfl ?_   -- 1.5
  refine V_asg (.n _) rfl rfl ?_   -- 1.6
  refine V_sub [(0, _), (1, _), (4, _), (5, _), (6, _)] ⟨rfl, rfl, rfl, rfl, rfl, trivial⟩ ?_
  refine V_nil (.inl rfl) ?_
  refine E_then ?_
  refine J_seq ?_
  refine J_region ?_
  refine V_mov (.n _) rfl rfl ?_   -- 2.0
  refine V_call (post := fun v D => ∃ b, v = .tuple #[.slice (some ⟨b, 0, none⟩) (posN xs) (posN xs), .int .i64 0] ∧ .c b 3 (I (tableOf xs)) ∈ D) (.n _) Tryd.call24 (.cons rfl .nil) (fun w1 hw1 => RefTable_yes w1 A c xs hl (hr.keep hw1) hv) rfl trivial ?_
  rintro v D2 ⟨b2, rfl, hD2⟩
  refine V_mov (.n _) rfl rfl ?_   -- 2.2
  refine V_ext (.n _) rfl rfl rfl ?_   -- 2.3
  refine V_ext (.n _) rfl rfl rfl ?_   -- 2.4
  refine V_asg (.n _) rfl rfl ?_   -- 2.5
  refine V_asg (.n _) rfl rfl ?_   -- 2.6
  refine V_sub [(0, _), (1, _), (4, _), (5, _), (6, _), (7, _), (8, _)] ⟨rfl, rfl, rfl, rfl, rfl, rfl, rfl, trivial⟩ ?_
  refine V_nil (.inl rfl) ?_
  refine E_then ?_
  refine J_seq ?_
  refine J_seq ?_
  refine J_region ?_
  refine V_mov (.n _) rfl rfl ?_   -- 3.0
  refine V_mov (.n _) rfl rfl ?_   -- 3.1
  refine V_call0 (v := .bool true) (.n _) Tryd.call25 (.cons rfl (.cons rfl .nil)) (fun w1 hw1 => by
  have h := equal_spec w1 (some ⟨b1, 0, none⟩) (some ⟨b2, 0, none⟩) (posN xs) (posN xs) (tableOf xs) (tableOf xs) (by rw [tableOf, tabD_length]; omega) (by rw [tableOf, tabD_length]; omega) (Rd.own hw1 (t := 3) (by simp [hD1])) (Rd.own hw1 (t := 3) (by simp [hD2]))
  rw [decide_eq_true rfl, show (tableOf xs).length = posN xs from tabD_length _ _] at h
  exact h) rfl trivial ?_
  refine V_notB (.n _) rfl rfl ?_   -- 3.3
  refine V_mov (.n _) rfl rfl ?_   -- 3.4
  refine V_go (4, false) rfl ?_
  refine V_mov (.n _) rfl rfl ?_   -- 3.5
  refine V_go (4, false) rfl ?_
  refine V_mov (.n _) rfl rfl ?_   -- 3.6
  refine V_go (4, false) rfl ?_
  refine V_neq (.n _) rfl rfl rfl ?_   -- 3.7
  refine V_pickF (.n _) rfl rfl rfl ?_   -- 3.8
  refine V_mov (.n _) rfl rfl ?_   -- 3.9
  refine V_go (9, false) rfl ?_
  refine V_call0 (.n _) Tryd.call17 .nil (fun w1 hw1 => awake_spec w1) rfl trivial ?_   -- 3.10
  refine V_go (9, false) rfl ?_
  refine V_notB (.n _) rfl rfl ?_   -- 3.11
  refine V_pickF (.n _) rfl rfl rfl ?_   -- 3.12
  refine V_sub [(0, _), (1, _), (4, _), (5, _), (6, _), (7, _), (8, _), (35, _)] ⟨rfl, rfl, rfl, rfl, rfl, rfl, rfl, rfl, trivial⟩ ?_
  refine V_nil (.inl rfl) ?_
  refine E_then ?_
  refine J_condF rfl ?_
  refine J_skip ?_
  refine E_then ?_
  refine J_seq ?_
  refine J_region ?_
  refine V_mov (.n _) rfl rfl ?_   -- 5.0
  refine V_mov (.n _) rfl rfl ?_   -- 5.1
  refine V_call0 (.n _) Tryd.call23 (.cons rfl (.cons rfl .nil)) (fun w1 hw1 => Bound_spec w1 A A2 c c2 xs ds hl hl2 (hr.keep hw1) (hd.keep hw1)) rfl trivial ?_   -- 5.2
  refine V_mov (.n _) rfl rfl ?_   -- 5.3
  refine V_ext (.n _) rfl rfl rfl ?_   -- 5.4
  refine V_ext (.n _) rfl rfl rfl ?_   -- 5.5
  refine V_ext (.n _) rfl rfl rfl ?_   -- 5.6
  refine V_asg (.n _) rfl rfl ?_   -- 5.7
  refine V_asg (.n _) rfl rfl ?_   -- 5.8
  refine V_asg (.n _) rfl rfl ?_   -- 5.9
  refine V_sub [(0, _), (1, _), (4, _), (5, _), (6, _), (7, _), (8, _), (9, _), (10, _), (35, _)] ⟨rfl, rfl, rfl, rfl, rfl, rfl, rfl, rfl, rfl, rfl, trivial⟩ ?_
  refine V_nil (.inl rfl) ?_
  refine E_then ?_
  refine J_seq ?_
  refine J_region ?_
  refine V_mov (.n _) rfl rfl ?_   -- 6.0
  refine V_mov (.n _) rfl rfl ?_   -- 6.1
  refine V_call0 (.n _) Tryd.call26 (.cons rfl (.cons rfl .nil)) (fun w1 hw1 => RefBound_spec w1 A A2 c c2 xs ds hl hl2 (hr.keep hw1) (hd.keep hw1)) rfl trivial ?_   -- 6.2
  refine V_mov (.n _) rfl rfl ?_   -- 6.3
  refine V_ext (.n _) rfl rfl rfl ?_   -- 6.4
  refine V_ext (.n _) rfl rfl rfl ?_   -- 6.5
  refine V_ext (.n _) rfl rfl rfl ?_   -- 6.6
  refine V_asg (.n _) rfl rfl ?_   -- 6.7
  refine V_asg (.n _) rfl rfl ?_   -- 6.8
  refine V_asg (.n _) rfl rfl ?_   -- 6.9
  refine V_sub [(0, _), (1, _), (4, _), (5, _), (6, _), (7, _), (8, _), (9, _), (10, _), (11, _), (12, _), (35, _)] ⟨rfl, rfl, rfl, rfl, rfl, rfl, rfl, rfl, rfl, rfl, rfl, rfl, trivial⟩ ?_
  refine V_nil (.inl rfl) ?_
  refine E_then ?_
  refine J_seq ?_
  refine J_region ?_
  refine V_mov (.n _) rfl rfl ?_   -- 7.0
  refine V_mov (.n _) rfl rfl ?_   -- 7.1
  refine V_eql (.n _) rfl rfl rfl ?_   -- 7.2
  rw [decide_eq_true (rfl : (boundOf xs ds).1 = (boundOf xs ds).1)]
  refine V_mov (.n _) rfl rfl ?_   -- 7.3
  refine V_go (3, true) rfl ?_
  refine V_mov (.n _) rfl rfl ?_   -- 7.4
  refine V_go (3, true) rfl ?_
  refine V_mov (.n _) rfl rfl ?_   -- 7.5
  refine V_go (3, true) rfl ?_
  refine V_beql (.n _) Tryd.underlying4 rfl rfl rfl ?_   -- 7.6
  rw [decide_eq_true (rfl : (boundOf xs ds).2.1 = (boundOf xs ds).2.1)]
  refine V_pickT (.n _) rfl rfl rfl ?_   -- 7.7
  refine V_mov (.n _) rfl rfl ?_   -- 7.8
  refine V_go (8, true) rfl ?_
  refine V_mov (.n _) rfl rfl ?_   -- 7.9
  refine V_go (8, true) rfl ?_
  refine V_mov (.n _) rfl rfl ?_   -- 7.10
  refine V_go (8, true) rfl ?_
  refine V_eql (.n _) rfl rfl rfl ?_   -- 7.11
  rw [decide_eq_true (rfl : (boundOf xs ds).2.2 = (boundOf xs ds).2.2)]
  refine V_pickT (.n _) rfl rfl rfl ?_   -- 7.12
  refine V_asg (.n _) rfl rfl ?_   -- 7.13
  refine V_sub [(0, _), (1, _), (4, _), (5, _), (6, _), (7, _), (8, _), (9, _), (10, _), (11, _), (12, _), (35, _)] ⟨rfl, rfl, rfl, rfl, rfl, rfl, rfl, rfl, rfl, rfl, rfl, rfl, trivial⟩ ?_
  refine V_nil (.inl rfl) ?_
  refine E_then ?_
  refine J_ret ?_
  -- return R0
  refine E_ret1 Tryd.results7 rfl (fun w hw => ?_)
  exact ⟨rfl, hw.sublist (by simp)⟩

theorem tables_no (w : World) (A A2 : Option Addr) (c c2 : Nat) (xs : List (List UInt8)) (ds : List Int) (hl : xs.length ≤ 140737488351232) (hl2 : ds.length ≤ 140737488351232) (hr : Rd w A (Ss xs)) (hd : Rd w A2 (I ds)) (hv : validW xs = false) :
    Calls Tryd.prog 7 #[.slice A xs.length c, .slice A2 ds.length c2] w fun e w' => e = .returned (.bool true) ∧ St w [] w' := by
  skip
  refine calls (args := [.slice A xs.length c, .slice A2 ds.length c2]) Tryd.func7 rfl Tryd.ntmps7 (Nat.le_of_ble_eq_true rfl) (St.refl w) ?_
  refine J_seq ?_
  refine J_region ?_
  refine V_asg (.n _) rfl rfl ?_   -- 0.0
  refine V_sub [(0, _), (1, _), (4, _)] ⟨rfl, rfl, rfl, trivial⟩ ?_
  refine V_nil (.inl rfl) ?_
  refine E_then ?_
  refine J_seq ?_
  refine J_region ?_
  refine V_mov (.n _) rfl rfl ?_   -- 1.0
  refine V_call0 (.n _) Tryd.call22 (.cons rfl .nil) (fun w1 hw1 => Table_no w1 A c xs hl (hr.keep hw1) hv) rfl trivial ?_   -- 1.1
  refine V_mov (.n _) rfl rfl ?_   -- 1.2
  refine V_ext (.n _) rfl rfl rfl ?_   -- 1.3
  refine V_ext (.n _) rfl rfl rfl ?_   -- 1.4
  refine V_asg (.n _) rfl rfl ?_   -- 1.5
  refine V_asg (.n _) rfl rfl ?_   -- 1.6
  refine V_sub [(0, _), (1, _), (4, _), (5, _), (6, _)] ⟨rfl, rfl, rfl, rfl, rfl, trivial⟩ ?_
  refine V_nil (.inl rfl) ?_
  refine E_then ?_
  refine J_seq ?_
  refine J_region ?_
  refine V_mov (.n _) rfl rfl ?_   -- 2.0
  refine V_call0 (.n _) Tryd.call24 (.cons rfl .nil) (fun w1 hw1 => RefTable_no w1 A c xs hl (hr.keep hw1) hv) rfl trivial ?_   -- 2.1
  refine V_mov (.n _) rfl rfl ?_   -- 2.2
  refine V_ext (.n _) rfl rfl rfl ?_   -- 2.3
  refine V_ext (.n _) rfl rfl rfl ?_   -- 2.4
  refine V_asg (.n _) rfl rfl ?_   -- 2.5
  refine V_asg (.n _) rfl rfl ?_   -- 2.6
  refine V_sub [(0, _), (1, _), (4, _), (5, _), (6, _), (7, _), (8, _)] ⟨rfl, rfl, rfl, rfl, rfl, rfl, rfl, trivial⟩ ?_
  refine V_nil (.inl rfl) ?_
  refine E_then ?_
  refine J_seq ?_
  refine J_seq ?_
  refine J_region ?_
  refine V_mov (.n _) rfl rfl ?_   -- 3.0
  refine V_mov (.n _) rfl rfl ?_   -- 3.1
  refine V_call0 (v := .bool true) (.n _) Tryd.call25 (.cons rfl (.cons rfl .nil)) (fun w1 hw1 => equal_spec w1 none none 0 0 [] [] (by simp) (by simp) (fun j v h => by simp [I] at h) (fun j v h => by simp [I] at h)) rfl trivial ?_   -- 3.2
  refine V_notB (.n _) rfl rfl ?_   -- 3.3
  refine V_mov (.n _) rfl rfl ?_   -- 3.4
  refine V_go (4, false) rfl ?_
  refine V_mov (.n _) rfl rfl ?_   -- 3.5
  refine V_go (4, false) rfl ?_
  refine V_mov (.n _) rfl rfl ?_   -- 3.6
  refine V_go (4, false) rfl ?_
  refine V_neq (.n _) rfl rfl rfl ?_   -- 3.7
  refine V_pickF (.n _) rfl rfl rfl ?_   -- 3.8
  refine V_mov (.n _) rfl rfl ?_   -- 3.9
  refine V_go (9, false) rfl ?_
  refine V_call0 (.n _) Tryd.call17 .nil (fun w1 hw1 => awake_spec w1) rfl trivial ?_   -- 3.10
  refine V_go (9, false) rfl ?_
  refine V_notB (.n _) rfl rfl ?_   -- 3.11
  refine V_pickF (.n _) rfl rfl rfl ?_   -- 3.12
  refine V_sub [(0, _), (1, _), (4, _), (5, _), (6, _), (7, _), (8, _), (35, _)] ⟨rfl, rfl, rfl, rfl, rfl, rfl, rfl, rfl, trivial⟩ ?_
  refine V_nil (.inl rfl) ?_
  refine E_then ?_
  refine J_condF rfl ?_
  refine J_skip ?_
  refine E_then ?_
  refine J_seq ?_
  refine J_region ?_
  refine V_mov (.n _) rfl rfl ?_   -- 5.0
  refine V_mov (.n _) rfl rfl ?_   -- 5.1
  refine V_call0 (.n _) Tryd.call23 (.cons rfl (.cons rfl .nil)) (fun w1 hw1 => Bound_spec w1 A A2 c c2 xs ds hl hl2 (hr.keep hw1) (hd.keep hw1)) rfl trivial ?_   -- 5.2
  refine V_mov (.n _) rfl rfl ?_   -- 5.3
  refine V_ext (.n _) rfl rfl rfl ?_   -- 5.4
  refine V_ext (.n _) rfl rfl rfl ?_   -- 5.5
  refine V_ext (.n _) rfl rfl rfl ?_   -- 5.6
  refine V_asg (.n _) rfl rfl ?_   -- 5.7
  refine V_asg (.n _) rfl rfl ?_   -- 5.8
  refine V_asg (.n _) rfl rfl ?_   -- 5.9
  refine V_sub [(0, _), (1, _), (4, _), (5, _), (6, _), (7, _), (8, _), (9, _), (10, _), (35, _)] ⟨rfl, rfl, rfl, rfl, rfl, rfl, rfl, rfl, rfl, rfl, trivial⟩ ?_
  refine V_nil (.inl rfl) ?_
  refine E_then ?_
  refine J_seq ?_
  refine J_region ?_
  refine V_mov (.n _) rfl rfl ?_   -- 6.0
  refine V_mov (.n _) rfl rfl ?_   -- 6.1
  refine V_call0 (.n _) Tryd.call26 (.cons rfl (.cons rfl .nil)) (fun w1 hw1 => RefBound_spec w1 A A2 c c2 xs ds hl hl2 (hr.keep hw1) (hd.keep hw1)) rfl trivial ?_   -- 6.2
  refine V_mov (.n _) rfl rfl ?_   -- 6.3
  refine V_ext (.n _) rfl rfl rfl ?_   -- 6.4
  refine V_ext (.n _) rfl rfl rfl ?_   -- 6.5
  refine V_ext (.n _) rfl rfl rfl ?_   -- 6.6
  refine V_asg (.n _) rfl rfl ?_   -- 6.7
  refine V_asg (.n _) rfl rfl ?_   -- 6.8
  refine V_asg (.n _) rfl rfl ?_   -- 6.9
  refine V_sub [(0, _), (1, _), (4, _), (5, _), (6, _), (7, _), (8, _), (9, _), (10, _), (11, _), (12, _), (35, _)] ⟨rfl, rfl, rfl, rfl, rfl, rfl, rfl, rfl, rfl, rfl, rfl, rfl, trivial⟩ ?_
  refine V_nil (.inl rfl) ?_
  refine E_then ?_
  refine J_seq ?_
  refine J_region ?_
  refine V_mov (.n _) rfl rfl ?_   -- 7.0
  refine V_mov (.n _) rfl rfl ?_   -- 7.1
  refine V_eql (.n _) rfl rfl rfl ?_   -- 7.2
  rw [decide_eq_true (rfl : (boundOf xs ds).1 = (boundOf xs ds).1)]
  refine V_mov (.n _) rfl rfl ?_   -- 7.3
  refine V_go (3, true) rfl ?_
  refine V_mov (.n _) rfl rfl ?_   -- 7.4
  refine V_go (3, true) rfl ?_
  refine V_mov (.n _) rfl rfl ?_   -- 7.5
  refine V_go (3, true) rfl ?_
  refine V_beql (.n _) Tryd.underlying4 rfl rfl rfl ?_   -- 7.6
  rw [decide_eq_true (rfl : (boundOf xs ds).2.1 = (boundOf xs ds).2.1)]
  refine V_pickT (.n _) rfl rfl rfl ?_   -- 7.7
  refine V_mov (.n _) rfl rfl ?_   -- 7.8
  refine V_go (8, true) rfl ?_
  refine V_mov (.n _) rfl rfl ?_   -- 7.9
  refine V_go (8, true) rfl ?_
  refine V_mov (.n _) rfl rfl ?_   -- 7.10
  refine V_go (8, true) rfl ?_
  refine V_eql (.n _) rfl rfl rfl ?_   -- 7.11
  rw [decide_eq_true (rfl : (boundOf xs ds).2.2 = (boundOf xs ds).2.2)]
  refine V_pickT (.n _) rfl rfl rfl ?_   -- 7.12
  refine V_asg (.n _) rfl rfl ?_   -- 7.13
  refine V_sub [(0, _), (1, _), (4, _), (5, _), (6, _), (7, _), (8, _), (9, _), (10, _), (11, _), (12, _), (35, _)] ⟨rfl, rfl, rfl, rfl, rfl, rfl, rfl, rfl, rfl, rfl, rfl, rfl, trivial⟩ ?_
  refine V_nil (.inl rfl) ?_
  refine E_then ?_
  refine J_ret ?_
  -- return R0
  refine E_ret1 Tryd.results7 rfl (fun w hw => ?_)
  exact ⟨rfl, hw.sublist (by simp)⟩


theorem tables_spec (w : World) (A A2 : Option Addr) (c c2 : Nat) (xs : List (List UInt8)) (ds : List Int) (hl : xs.length ≤ 140737488351232) (hl2 : ds.length ≤ 140737488351232) (hr : Rd w A (Ss xs)) (hd : Rd w A2 (I ds)) :
    Calls Tryd.prog 7 #[.slice A xs.length c, .slice A2 ds.length c2] w fun e w' => e = .returned (.bool true) ∧ St w [] w' := by
  cases hv : validW xs with
  | true => exact tables_yes w A A2 c c2 xs ds hl hl2 hr hd hv
  | false => exact tables_no w A A2 c c2 xs ds hl hl2 hr hd hv

end Go.Proofs.YtgeahmmepfmcoaaDoor
