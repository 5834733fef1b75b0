/- parts that the proof of BathTours uses -/
import Derived.Test.YtgeahmmepfmcoaaDoorTour
namespace Go.Proofs.YtgeahmmepfmcoaaDoor
open Go Go.RowKit L
set_option linter.unusedVariables false
set_option linter.unusedSimpArgs false

theorem few_tour (d : Rows2) : tourR (few d) = tourR d := by
  by_cases h : DP d
  · rw [few_same h]
  · have h1 := distP_no h
    rw [tourR_n h1, tourR_n (by rw [few_dist]; exact h1)]
theorem few_tree (d : Rows2) (pi : List Int) : treeR (few d) pi = treeR d pi := by
  by_cases h : DP d
  · rw [few_same h]
  · have h1 := distP_no h
    rw [treeR_a h1, treeR_a (by rw [few_dist]; exact h1)]
theorem few_bd (d : Rows2) : (few d).length ≤ 140737488351232 := by rw [few_len]; omega
theorem tourR_len (d : Rows2) : (tourR d).1.length ≤ 140737488351232 := by
  by_cases h : DP d
  · have h9 := h.n9
    have h3 := h.n3
    rw [tourR_y h, List.length_map]
    have := (tour_ok h.costs (by omega) (by omega) (d.length - 1) 1 0 (by have := three_lt h3; omega) (by omega) (by
      have := pc_or (n := d.length) (s := 0) (j := 0) (by omega) (by simp)
      rw [pc_zero] at this
      have e : (0 : Nat) ||| 2 ^ 0 = 1 := rfl
      rw [e] at this; omega)).2.1
    show (0 :: restT d.length d (d.length - 1) 1 0).length ≤ _
    rw [List.length_cons, this]; omega
  · rw [tourR_n (distP_no h)]; simp

theorem tourslaw_spec (w : World) (A : Option Addr) (c : Nat) (vs : List Value) (d : Rows2) (hl : d.length ≤ 140737488351232) (hm : Mx w A vs d) (hlr : ∀ r ∈ d, r.length ≤ 140737488351232) (hcr : ∀ (i : Nat) (A : Option Addr) (l c : Nat), vs[i]? = some (Value.slice A l c) → l ≤ c) (AP : Option Addr) (cP : Nat) (pi : List Int) (hlp : pi.length ≤ 140737488351232) (hr : Rd w AP (I pi)) : Calls Tryd.prog 14 #[.slice A d.length c, .slice AP pi.length cP] w fun e w' => e = .returned (.bool true) ∧ St w [] w' := by
  refine calls (args := [.slice A d.length c, .slice AP pi.length cP]) Tryd.func14 rfl Tryd.ntmps14 (Nat.le_of_ble_eq_true rfl) (St.refl w) ?_
  refine J_seq ?_
  refine J_region ?_
  refine V_asg (.n _) rfl rfl ?_   -- 0.0
  refine V_sub [(0, _), (1, _), (4, _)] ⟨rfl, rfl, rfl, trivial⟩ ?_
  refine V_nil (.inl rfl) ?_
  refine E_then ?_
  refine J_seq ?_
  refine J_region ?_
  refine V_mov (.n _) rfl rfl ?_   -- 1.0
  refine V_call (post := fun v D => ∃ A' c' vs', v = .slice A' (few d).length c' ∧ MRds D A' vs' (few d)) (.n _) Tryd.call44 (.cons rfl .nil) (fun w1 hw1 => few_spec w1 A c vs d hl (hm.keep hw1) hlr hcr) rfl trivial ?_
  rintro _ Dx ⟨ax, kx, usx, rfl, hMx⟩
  refine V_call (post := fun v D => ∃ A c, v = .tuple #[.slice A (tourR d).1.length c, .int .i64 (tourR d).2] ∧ Rds D A (I (tourR d).1)) (.n _) Tryd.call43 (.cons rfl .nil) (fun w1 hw1 => by
    have h := Tour_spec w1 ax kx usx (few d) (few_bd d) (hMx.at hw1 (by intro x hx; simp [hx])) few_rows
    rw [few_tour] at h
    exact h.mono fun e w2 ⟨A, c, D, he, hD, hR⟩ => ⟨_, D, he, hD, A, c, rfl, hR⟩) rfl trivial ?_
  rintro _ Ep ⟨bap, bcp, rfl, hBp⟩
  refine V_mov (.n _) rfl rfl ?_   -- 1.3
  refine V_ext (.n _) rfl rfl rfl ?_   -- 1.4
  refine V_ext (.n _) rfl rfl rfl ?_   -- 1.5
  refine V_asg (.n _) rfl rfl ?_   -- 1.6
  refine V_asg (.n _) rfl rfl ?_   -- 1.7
  refine V_sub [(0, _), (1, _), (4, _), (5, _), (6, _)] ⟨rfl, rfl, rfl, rfl, rfl, trivial⟩ ?_
  refine V_nil (.inl rfl) ?_
  refine E_then ?_
  refine J_seq ?_
  refine J_region ?_
  refine V_mov (.n _) rfl rfl ?_   -- 2.0
  refine V_call (post := fun v D => ∃ A c, v = .tuple #[.slice A (tourR d).1.length c, .int .i64 (tourR d).2] ∧ Rds D A (I (tourR d).1)) (.n _) Tryd.call45 (.cons rfl .nil) (fun w1 hw1 => by
    have h := RTour_spec w1 A c vs d hl (hm.keep hw1) hlr
    exact h.mono fun e w2 ⟨A, c, D, he, hD, hR⟩ => ⟨_, D, he, hD, A, c, rfl, hR⟩) rfl trivial ?_
  rintro _ Eq ⟨baq, bcq, rfl, hBq⟩
  refine V_mov (.n _) rfl rfl ?_   -- 2.2
  refine V_ext (.n _) rfl rfl rfl ?_   -- 2.3
  refine V_ext (.n _) rfl rfl rfl ?_   -- 2.4
  refine V_asg (.n _) rfl rfl ?_   -- 2.5
  refine V_asg (.n _) rfl rfl ?_   -- 2.6
  refine V_sub [(0, _), (1, _), (4, _), (5, _), (6, _), (7, _), (8, _)] ⟨rfl, rfl, rfl, rfl, rfl, rfl, rfl, trivial⟩ ?_
  refine V_nil (.inl rfl) ?_
  refine E_then ?_
  refine J_seq ?_
  refine J_region ?_
  refine V_mov (.n _) rfl rfl ?_   -- 3.0
  refine V_call (post := fun v D => ∃ A' c' vs', v = .slice A' (few d).length c' ∧ MRds D A' vs' (few d)) (.n _) Tryd.call44 (.cons rfl .nil) (fun w1 hw1 => few_spec w1 A c vs d hl (hm.keep hw1) hlr hcr) rfl trivial ?_
  rintro _ Dy ⟨ay, ky, usy, rfl, hMy⟩
  refine V_mov (.n _) rfl rfl ?_   -- 3.2
  refine V_call0 (v := .tuple #[.int .i64 (treeR d pi).1, .int .i64 (treeR d pi).2]) (.n _) Tryd.call46 (.cons rfl (.cons rfl .nil)) (fun w1 hw1 => by
  have h := Tree_spec w1 ay ky usy (few d) (few_bd d) (hMy.at hw1 (by intro x hx; simp [hx])) few_rows AP cP pi hlp (hr.keep hw1)
  rw [few_tree] at h
  exact h) rfl trivial ?_
  refine V_mov (.n _) rfl rfl ?_   -- 3.4
  refine V_ext (.n _) rfl rfl rfl ?_   -- 3.5
  refine V_ext (.n _) rfl rfl rfl ?_   -- 3.6
  refine V_asg (.n _) rfl rfl ?_   -- 3.7
  refine V_asg (.n _) rfl rfl ?_   -- 3.8
  refine V_sub [(0, _), (1, _), (4, _), (5, _), (6, _), (7, _), (8, _), (9, _), (10, _)] ⟨rfl, rfl, rfl, rfl, rfl, rfl, rfl, rfl, rfl, trivial⟩ ?_
  refine V_nil (.inl rfl) ?_
  refine E_then ?_
  refine J_seq ?_
  refine J_region ?_
  refine V_mov (.n _) rfl rfl ?_   -- 4.0
  refine V_mov (.n _) rfl rfl ?_   -- 4.1
  refine V_call0 (v := .tuple #[.int .i64 (treeR d pi).1, .int .i64 (treeR d pi).2]) (.n _) Tryd.call47 (.cons rfl (.cons rfl .nil)) (fun w1 hw1 => by
  have h := RTree_spec w1 A c vs d hl (hm.keep hw1) hlr AP cP pi hlp (hr.keep hw1)
  exact h) rfl trivial ?_
  refine V_mov (.n _) rfl rfl ?_   -- 4.3
  refine V_ext (.n _) rfl rfl rfl ?_   -- 4.4
  refine V_ext (.n _) rfl rfl rfl ?_   -- 4.5
  refine V_asg (.n _) rfl rfl ?_   -- 4.6
  refine V_asg (.n _) rfl rfl ?_   -- 4.7
  refine V_sub [(0, _), (1, _), (4, _), (5, _), (6, _), (7, _), (8, _), (9, _), (10, _), (11, _), (12, _)] ⟨rfl, rfl, rfl, rfl, rfl, rfl, rfl, rfl, rfl, rfl, rfl, trivial⟩ ?_
  refine V_nil (.inl rfl) ?_
  refine E_then ?_
  refine J_seq ?_
  refine J_region ?_
  refine V_mov (.n _) rfl rfl ?_   -- 5.0
  refine V_mov (.n _) rfl rfl ?_   -- 5.1
  refine V_call0 (v := .bool true) (.n _) Tryd.call25 (.cons rfl (.cons rfl .nil)) (fun w1 hw1 => by
  have h := equal_spec w1 bap baq bcp bcq (tourR d).1 (tourR d).1 (tourR_len d) (tourR_len d) (hBp.of hw1 (by intro x hx; simp [hx])) (hBq.of hw1 (by intro x hx; simp [hx]))
  rw [decide_eq_true rfl] at h
  exact h) rfl trivial ?_
  refine V_mov (.n _) rfl rfl ?_   -- 5.3
  refine V_go (3, true) rfl ?_
  refine V_mov (.n _) rfl rfl ?_   -- 5.4
  refine V_go (3, true) rfl ?_
  refine V_mov (.n _) rfl rfl ?_   -- 5.5
  refine V_go (3, true) rfl ?_
  refine V_eql (.n _) rfl rfl rfl ?_   -- 5.6
  refine V_pickT (.n _) rfl rfl rfl ?_   -- 5.7
  refine V_mov (.n _) rfl rfl ?_   -- 5.8
  refine V_split 45 rfl (fun h1 => ?_) (fun h1 => ?_)   -- guard 5.8
  · skip
    refine V_go (8, true) rfl ?_
    refine V_mov (.n _) rfl rfl ?_   -- 5.9
    refine V_go (8, true) rfl ?_
    refine V_mov (.n _) rfl rfl ?_   -- 5.10
    refine V_go (8, true) rfl ?_
    refine V_eql (.n _) rfl rfl rfl ?_   -- 5.11
    refine V_pickT (.n _) rfl rfl rfl ?_   -- 5.12
    refine V_mov (.n _) rfl rfl ?_   -- 5.13
    refine V_split 50 rfl (fun h2 => ?_) (fun h2 => ?_)   -- guard 5.13
    · skip
      refine V_go (13, true) rfl ?_
      refine V_mov (.n _) rfl rfl ?_   -- 5.14
      refine V_go (13, true) rfl ?_
      refine V_mov (.n _) rfl rfl ?_   -- 5.15
      refine V_go (13, true) rfl ?_
      refine V_eql (.n _) rfl rfl rfl ?_   -- 5.16
      refine V_pickT (.n _) rfl rfl rfl ?_   -- 5.17
      refine V_mov (.n _) rfl rfl ?_   -- 5.18
      refine V_split 55 rfl (fun h3 => ?_) (fun h3 => ?_)   -- guard 5.18
      · skip
        refine V_go (18, true) rfl ?_
        refine V_call0 (.n _) Tryd.call17 .nil (fun w1 hw1 => awake_spec w1) rfl trivial ?_   -- 5.19
        refine V_pickT (.n _) rfl rfl rfl ?_   -- 5.20
        refine V_asg (.n _) rfl rfl ?_   -- 5.21
        refine V_sub [(0, _), (1, _), (4, _), (5, _), (6, _), (7, _), (8, _), (9, _), (10, _), (11, _), (12, _)] ⟨rfl, rfl, rfl, rfl, rfl, rfl, rfl, rfl, rfl, rfl, rfl, trivial⟩ ?_
        refine V_nil (.inl rfl) ?_
        refine E_then ?_
        refine J_ret ?_
        -- return R0
        refine E_ret1 Tryd.results14 rfl (fun w hw => ?_)
        exact ⟨by first | rfl | rw [decide_eq_true rfl], hw.sub (fun x hx => by simp at hx) (by simp [keys])⟩
      · exact absurd rfl h3
    · exact absurd rfl h2
  · exact absurd rfl h1

end Go.Proofs.YtgeahmmepfmcoaaDoor
