/- parts of the proofs of the bath statements -/
import Derived.Test.YtgeahmmepfmcoaaDoorOrderlaws
namespace Go.Proofs.YtgeahmmepfmcoaaDoor
open Go Go.RowKit L
set_option linter.unusedVariables false
set_option linter.unusedSimpArgs false

theorem Bp_push (be : List (Int × Int)) (x y : Int) : Bp be ++ [.int .i64 x, .int .i64 y] = Bp (be ++ [(x, y)]) := by rw [Bp_append]; rfl
theorem more_sub (be : List (Int × Int)) (b : Int × Int) : ∀ x ∈ natB be, x ∈ natB (be ++ [b]) := by
  intro x hx
  unfold natB at hx ⊢
  rw [List.map_append, List.mem_append]
  exact .inl hx
theorem more_good {st : List Int} {ch : Rows2} {be : List (Int × Int)} {b : Int × Int} (h : (bestR st ch be).2 = 0) (h2 : (bestR st ch (be ++ [b])).2 = 0) : (costR st ch be (bestR st ch (be ++ [b])).1).2 = 0 := by
  obtain ⟨hv, hp, he⟩ := best_good h
  obtain ⟨hv2, hp2, he2⟩ := best_good h2
  obtain ⟨g1, g2, _⟩ := best_ok0 hv2 hp2
  rw [he2, costR, if_neg (by rw [validP_iff.2 hv]; simp), if_pos (ordB_ofN (okO_more (more_sub be b) _ _ g1) g2)]
theorem best_err2 {st : List Int} {ch : Rows2} {be : List (Int × Int)} (h : ¬ (bestR st ch be).2 = 0) (h2 : ¬ (bestR st ch be).2 = 2) (h7 : ¬ (bestR st ch be).2 = 7) : False := by
  rcases (best_err h).1 with h | h
  · exact h2 h
  · exact h7 h
theorem best_inv {st : List Int} {ch : Rows2} {be : List (Int × Int)} (h : (bestR st ch be).2 = 2) : validP st ch be = false := by
  unfold bestR at h
  split at h
  · assumption
  · split at h <;> simp at h

theorem clone2_spec (w : World) (A : Option Addr) (c : Nat) (be : List (Int × Int)) (hl : be.length ≤ 16777216) (hr : Rd w A (Bp be)) : Calls Tryd.prog 33 #[.slice A be.length c] w fun e w' => ∃ v D, e = .returned v ∧ St w D w' ∧ ∃ X, D = [X] ∧ Own 49 2 v be.length (Bp be) X := by
  refine calls (args := [.slice A be.length c]) Tryd.func33 rfl Tryd.ntmps33 (Nat.le_of_ble_eq_true rfl) (St.refl w) ?_
  refine J_seq ?_
  refine J_region ?_
  refine V_asg (.n _) rfl rfl ?_   -- 0.0
  refine V_sub [(0, _), (2, _)] ⟨rfl, rfl, trivial⟩ ?_
  refine V_nil (.inl rfl) ?_
  refine E_then ?_
  refine J_seq ?_
  refine J_seq ?_
  refine J_region ?_
  refine V_mov (.n _) rfl rfl ?_   -- 1.0
  refine V_isnil (.n _) Tryd.underlying46 rfl rfl rfl ?_   -- 1.1
  refine V_sub [(0, _), (2, _), (4, _)] ⟨rfl, rfl, rfl, trivial⟩ ?_
  refine V_nil (.inl rfl) ?_
  refine E_then ?_
  refine J_cond rfl (fun h1 => ?_) (fun h1 => ?_)   -- C0
  · skip
    refine J_seq ?_
    refine J_region ?_
    refine V_asg (.n _) rfl rfl ?_   -- 2.0
    refine V_sub [(0, _), (2, _), (4, _)] ⟨rfl, rfl, rfl, trivial⟩ ?_
    refine V_nil (.inl rfl) ?_
    refine E_then ?_
    refine J_ret ?_
    refine E_then_ret ?_
    -- return R0
    refine E_ret1 Tryd.results33 rfl (fun w hw => ?_)
    have hA : A = none := by assumption
    subst hA
    have hx := rd_none hr
    have hx0 : be = [] := List.eq_nil_of_length_eq_zero (by have := congrArg List.length hx; simp at this; omega)
    subst hx0
    exact ⟨_, [.e], rfl, ⟨hw.base, List.nodup_nil, by simp [keys, Ent.key], by simp [Ent.ok]⟩, .e, rfl, Own.nil _ _ _⟩
  · skip
    refine J_skip ?_
    refine E_then ?_
    refine J_seq ?_
    refine J_region ?_
    refine V_lit (.n _) Tryd.underlying46 Tryd.sizeOf49 Tryd.zeroValue49 .nil rfl rfl rfl (fun _ => trivial) (fun b5 => ?_)   -- 3.0
    refine V_mov (.n _) rfl rfl ?_   -- 3.1
    refine V_app (z := 2) (len := 0) (cs := []) (ms := Bp be) (X := .c b5 49 []) (G1 := []) (G2 := []) (.n _) Tryd.underlying46 Tryd.underlying46 Tryd.typeInfo49 rfl rfl rfl rfl rfl rfl rfl rfl (Own.row rfl) (fun w1 hw1 => hr.keep hw1) (by simp) (Bp_one _) (by omega) rfl ?_
    intro v2 X2 hown
    refine V_asg (.n _) rfl rfl ?_   -- 3.3
    refine V_sub [(0, _), (2, _), (4, _)] ⟨rfl, rfl, rfl, trivial⟩ ?_
    refine V_nil (.inl rfl) ?_
    refine E_then ?_
    refine J_ret ?_
    -- return R1
    refine E_ret1 Tryd.results33 rfl (fun w hw => ?_)
    rw [List.nil_append, Nat.zero_add] at hown
    exact ⟨_, [X2], rfl, hw, X2, rfl, hown⟩

theorem more_spec (w : World) (A1 A2 A3 : Option Addr) (c1 c2 c3 : Nat) (vs : List Value) (st : List Int) (ch : Rows2) (be : List (Int × Int)) (hl1 : st.length ≤ 140737488351232) (hl2 : ch.length ≤ 140737488351232) (hl3 : be.length ≤ 140737488351232) (hp : PR w A1 A2 A3 vs st ch be) (hlr : ∀ r ∈ ch, r.length ≤ 140737488351232) (hc1 : st.length ≤ c1) (hcr : ∀ (i : Nat) (A : Option Addr) (l c : Nat), vs[i]? = some (Value.slice A l c) → l ≤ c) (px py : Int) : Calls Tryd.prog 9 #[.agg #[.slice A1 st.length c1, .slice A2 ch.length c2, .slice A3 be.length c3], .agg #[.int .i64 px, .int .i64 py]] w fun e w' => e = .returned (.bool true) ∧ St w [] w' := by
  refine calls (args := [.agg #[.slice A1 st.length c1, .slice A2 ch.length c2, .slice A3 be.length c3], .agg #[.int .i64 px, .int .i64 py]]) Tryd.func9 rfl Tryd.ntmps9 (Nat.le_of_ble_eq_true rfl) (St.refl w) ?_
  refine J_seq ?_
  refine J_region ?_
  refine V_box (.n _) rfl rfl rfl (fun _ => trivial) (fun b2 => ?_)   -- 0.0
  refine V_box (.n _) rfl rfl rfl (fun _ => trivial) (fun b3 => ?_)   -- 0.1
  refine V_asg (.n _) rfl rfl ?_   -- 0.2
  refine V_sub [(0, _), (1, _), (2, _), (3, _), (4, _)] ⟨rfl, rfl, rfl, rfl, rfl, trivial⟩ ?_
  refine V_nil (.inl rfl) ?_
  refine E_then ?_
  refine J_seq ?_
  refine J_region ?_
  refine V_ldN (.n _) Tryd.isAgg48 Tryd.sizeOf48 rfl (by repeat (first | exact List.Mem.head _ | assumption | apply List.Mem.tail | apply List.mem_append_right)) (by rfl) rfl rfl ?_   -- 1.0
  refine V_call (post := fun v D => ∃ A1' c1' A2' c2' A3' c3' vs', v = .agg #[.slice A1' (st.take 12).length c1', .slice A2' (ch12 ch).length c2', .slice A3' (be.take 42).length c3'] ∧ PRds D A1' A2' A3' vs' (st.take 12) (ch12 ch) (be.take 42)) (.n _) Tryd.call32 (.cons rfl .nil) (fun w1 hw1 => of_spec w1 A1 A2 A3 c1 c2 c3 vs st ch be hl1 hl2 hl3 (hp.keep hw1) hc1 hcr) rfl trivial ?_
  rintro _ Dx ⟨a1x, k1x, a2x, k2x, a3x, k3x, usx, rfl, hPx⟩
  refine V_call (post := fun v D => ∃ A c, v = .tuple #[.slice A (bestR st ch be).1.length c, .int .i64 (bestR st ch be).2] ∧ Rds D A (I (bestR st ch be).1)) (.n _) Tryd.call31 (.cons rfl .nil) (fun w1 hw1 => by
    have h := Best_spec w1 a1x a2x a3x k1x k2x k3x usx (st.take 12) (ch12 ch) (be.take 42) (by rw [List.length_take]; omega) (by rw [ch12_len]; omega) (by rw [List.length_take]; omega) (hPx.at hw1 (by intro x hx; simp [hx])) ch12_rows
    rw [best_of] at h
    exact h.mono fun e w2 ⟨A, c, D, he, hD, hR⟩ => ⟨_, D, he, hD, A, c, rfl, hR⟩) rfl trivial ?_
  rintro _ Ep ⟨bap, bcp, rfl, hBp⟩
  refine V_mov (.n _) rfl rfl ?_   -- 1.3
  refine V_ext (.n _) rfl rfl rfl ?_   -- 1.4
  refine V_ext (.n _) rfl rfl rfl ?_   -- 1.5
  refine V_asg (.n _) rfl rfl ?_   -- 1.6
  refine V_asg (.n _) rfl rfl ?_   -- 1.7
  refine V_sub [(0, _), (1, _), (2, _), (3, _), (4, _), (5, _), (6, _)] ⟨rfl, rfl, rfl, rfl, rfl, rfl, rfl, trivial⟩ ?_
  refine V_nil (.inl rfl) ?_
  refine E_then ?_
  refine J_seq ?_
  refine J_seq ?_
  refine J_region ?_
  refine V_mov (.n _) rfl rfl ?_   -- 2.0
  refine V_neq (.n _) rfl rfl rfl ?_   -- 2.1
  refine V_mov (.n _) rfl rfl ?_   -- 2.2
  refine V_split 20 rfl (fun h1 => ?_) (fun h1 => ?_)   -- guard 2.2
  · skip
    refine V_pass (.n .p) (2, false) rfl rfl ?_   -- 2.3
    refine V_pass (.n .p) (2, false) rfl rfl ?_   -- 2.4
    refine V_pass (.n .p) (2, false) rfl rfl ?_   -- 2.5
    refine V_pass (.n .p) (2, false) rfl rfl ?_   -- 2.6
    refine V_pickT (.n _) rfl rfl rfl ?_   -- 2.7
    refine V_sub [(0, _), (1, _), (2, _), (3, _), (4, _), (5, _), (6, _), (25, _)] ⟨rfl, rfl, rfl, rfl, rfl, rfl, rfl, rfl, trivial⟩ ?_
    refine V_nil (.inl rfl) ?_
    refine E_then ?_
    refine J_condT rfl ?_
    refine J_seq ?_
    refine J_region ?_
    refine V_mov (.n _) rfl rfl ?_   -- 3.0
    refine V_eql (.n _) rfl rfl rfl ?_   -- 3.1
    refine V_mov (.n _) rfl rfl ?_   -- 3.2
    refine V_split 28 rfl (fun h2 => ?_) (fun h2 => ?_)   -- guard 3.2
    · skip
      refine V_pass (.n .p) (2, false) rfl rfl ?_   -- 3.3
      refine V_pass (.n .p) (2, false) rfl rfl ?_   -- 3.4
      refine V_pickT (.n _) rfl rfl rfl ?_   -- 3.5
      refine V_mov (.n _) rfl rfl ?_   -- 3.6
      refine V_pass (.n .p) (6, false) rfl rfl ?_   -- 3.7
      refine V_pass (.n .p) (6, false) rfl rfl ?_   -- 3.8
      refine V_pickT (.n _) rfl rfl rfl ?_   -- 3.9
      refine V_mov (.n _) rfl rfl ?_   -- 3.10
      refine V_go (10, true) rfl ?_
      refine V_call0 (.n _) Tryd.call17 .nil (fun w1 hw1 => awake_spec w1) rfl trivial ?_   -- 3.11
      refine V_pickT (.n _) rfl rfl rfl ?_   -- 3.12
      refine V_asg (.n _) rfl rfl ?_   -- 3.13
      refine V_sub [(0, _), (1, _), (2, _), (3, _), (4, _), (5, _), (6, _), (25, _)] ⟨rfl, rfl, rfl, rfl, rfl, rfl, rfl, rfl, trivial⟩ ?_
      refine V_nil (.inl rfl) ?_
      refine E_then ?_
      refine J_ret ?_
      refine E_then_ret ?_
      -- return R0
      refine E_ret1 Tryd.results9 rfl (fun w hw => ?_)
      exact ⟨by first | rfl | rw [decide_eq_true rfl], hw.sub (fun x hx => by simp at hx) (by simp [keys])⟩
    · skip
      refine V_go (2, false) rfl ?_
      refine V_mov (.n _) rfl rfl ?_   -- 3.3
      refine V_go (2, false) rfl ?_
      refine V_eql (.n _) rfl rfl rfl ?_   -- 3.4
      refine V_pickF (.n _) rfl rfl rfl ?_   -- 3.5
      refine V_mov (.n _) rfl rfl ?_   -- 3.6
      refine V_split 32 rfl (fun h3 => ?_) (fun h3 => ?_)   -- guard 3.6
      · skip
        refine V_pass (.n .p) (6, false) rfl rfl ?_   -- 3.7
        refine V_pass (.n .p) (6, false) rfl rfl ?_   -- 3.8
        refine V_pickT (.n _) rfl rfl rfl ?_   -- 3.9
        refine V_mov (.n _) rfl rfl ?_   -- 3.10
        refine V_go (10, true) rfl ?_
        refine V_call0 (.n _) Tryd.call17 .nil (fun w1 hw1 => awake_spec w1) rfl trivial ?_   -- 3.11
        refine V_pickT (.n _) rfl rfl rfl ?_   -- 3.12
        refine V_asg (.n _) rfl rfl ?_   -- 3.13
        refine V_sub [(0, _), (1, _), (2, _), (3, _), (4, _), (5, _), (6, _), (25, _)] ⟨rfl, rfl, rfl, rfl, rfl, rfl, rfl, rfl, trivial⟩ ?_
        refine V_nil (.inl rfl) ?_
        refine E_then ?_
        refine J_ret ?_
        refine E_then_ret ?_
        -- return R1
        refine E_ret1 Tryd.results9 rfl (fun w hw => ?_)
        exact ⟨by first | rfl | rw [decide_eq_true rfl], hw.sub (fun x hx => by simp at hx) (by simp [keys])⟩
      · skip
        refine V_go (6, false) rfl ?_
        refine V_mov (.n _) rfl rfl ?_   -- 3.7
        refine V_go (6, false) rfl ?_
        refine V_eql (.n _) rfl rfl rfl ?_   -- 3.8
        refine V_pickF (.n _) rfl rfl rfl ?_   -- 3.9
        refine V_mov (.n _) rfl rfl ?_   -- 3.10
        refine V_split 36 rfl (fun h4 => ?_) (fun h4 => ?_)   -- guard 3.10
        · skip
          refine V_go (10, true) rfl ?_
          refine V_call0 (.n _) Tryd.call17 .nil (fun w1 hw1 => awake_spec w1) rfl trivial ?_   -- 3.11
          refine V_pickT (.n _) rfl rfl rfl ?_   -- 3.12
          refine V_asg (.n _) rfl rfl ?_   -- 3.13
          refine V_sub [(0, _), (1, _), (2, _), (3, _), (4, _), (5, _), (6, _), (25, _)] ⟨rfl, rfl, rfl, rfl, rfl, rfl, rfl, rfl, trivial⟩ ?_
          refine V_nil (.inl rfl) ?_
          refine E_then ?_
          refine J_ret ?_
          refine E_then_ret ?_
          -- return R2
          refine E_ret1 Tryd.results9 rfl (fun w hw => ?_)
          exact ⟨by first | rfl | rw [decide_eq_true rfl], hw.sub (fun x hx => by simp at hx) (by simp [keys])⟩
        · exact (best_err2 (by omega) (by omega) (by omega)).elim
  · skip
    refine V_go (2, false) rfl ?_
    first | refine V_fa0 (.n _) fo48_2 rfl rfl ?_ | refine V_faz (.n _) fo48_2 rfl rfl ?_ | refine V_fa (.n _) fo48_2 rfl rfl ?_   -- 2.3
    refine V_go (2, false) rfl ?_
    refine V_ld (.n _) Tryd.isAgg46 rfl (by repeat (first | exact List.Mem.head _ | assumption | apply List.Mem.tail | apply List.mem_append_right)) (by rfl) rfl ?_   -- 2.4
    refine V_go (2, false) rfl ?_
    refine V_len (.n _) Tryd.underlying46 rfl rfl ?_   -- 2.5
    refine V_go (2, false) rfl ?_
    refine V_gtr (.n _) rfl rfl rfl ?_   -- 2.6
    refine V_pickF (.n _) rfl rfl rfl ?_   -- 2.7
    refine V_sub [(0, _), (1, _), (2, _), (3, _), (4, _), (5, _), (6, _), (25, _)] ⟨rfl, rfl, rfl, rfl, rfl, rfl, rfl, rfl, trivial⟩ ?_
    refine V_nil (.inl rfl) ?_
    refine E_then ?_
    refine J_cond rfl (fun h5 => ?_) (fun h5 => ?_)   -- C0
    · skip
      refine J_seq ?_
      refine J_region ?_
      refine V_mov (.n _) rfl rfl ?_   -- 3.0
      refine V_eql (.n _) rfl rfl rfl ?_   -- 3.1
      refine V_mov (.n _) rfl rfl ?_   -- 3.2
      refine V_split 28 rfl (fun h6 => ?_) (fun h6 => ?_)   -- guard 3.2
      · skip
        refine V_pass (.n .p) (2, false) rfl rfl ?_   -- 3.3
        refine V_pass (.n .p) (2, false) rfl rfl ?_   -- 3.4
        refine V_pickT (.n _) rfl rfl rfl ?_   -- 3.5
        refine V_mov (.n _) rfl rfl ?_   -- 3.6
        refine V_pass (.n .p) (6, false) rfl rfl ?_   -- 3.7
        refine V_pass (.n .p) (6, false) rfl rfl ?_   -- 3.8
        refine V_pickT (.n _) rfl rfl rfl ?_   -- 3.9
        refine V_mov (.n _) rfl rfl ?_   -- 3.10
        refine V_go (10, true) rfl ?_
        refine V_call0 (.n _) Tryd.call17 .nil (fun w1 hw1 => awake_spec w1) rfl trivial ?_   -- 3.11
        refine V_pickT (.n _) rfl rfl rfl ?_   -- 3.12
        refine V_asg (.n _) rfl rfl ?_   -- 3.13
        refine V_sub [(0, _), (1, _), (2, _), (3, _), (4, _), (5, _), (6, _), (25, _)] ⟨rfl, rfl, rfl, rfl, rfl, rfl, rfl, rfl, trivial⟩ ?_
        refine V_nil (.inl rfl) ?_
        refine E_then ?_
        refine J_ret ?_
        refine E_then_ret ?_
        -- return R3
        refine E_ret1 Tryd.results9 rfl (fun w hw => ?_)
        exact ⟨by first | rfl | rw [decide_eq_true rfl], hw.sub (fun x hx => by simp at hx) (by simp [keys])⟩
      · skip
        refine V_go (2, false) rfl ?_
        refine V_mov (.n _) rfl rfl ?_   -- 3.3
        refine V_go (2, false) rfl ?_
        refine V_eql (.n _) rfl rfl rfl ?_   -- 3.4
        refine V_pickF (.n _) rfl rfl rfl ?_   -- 3.5
        refine V_mov (.n _) rfl rfl ?_   -- 3.6
        refine V_split 32 rfl (fun h7 => ?_) (fun h7 => ?_)   -- guard 3.6
        · skip
          refine V_pass (.n .p) (6, false) rfl rfl ?_   -- 3.7
          refine V_pass (.n .p) (6, false) rfl rfl ?_   -- 3.8
          refine V_pickT (.n _) rfl rfl rfl ?_   -- 3.9
          refine V_mov (.n _) rfl rfl ?_   -- 3.10
          refine V_go (10, true) rfl ?_
          refine V_call0 (.n _) Tryd.call17 .nil (fun w1 hw1 => awake_spec w1) rfl trivial ?_   -- 3.11
          refine V_pickT (.n _) rfl rfl rfl ?_   -- 3.12
          refine V_asg (.n _) rfl rfl ?_   -- 3.13
          refine V_sub [(0, _), (1, _), (2, _), (3, _), (4, _), (5, _), (6, _), (25, _)] ⟨rfl, rfl, rfl, rfl, rfl, rfl, rfl, rfl, trivial⟩ ?_
          refine V_nil (.inl rfl) ?_
          refine E_then ?_
          refine J_ret ?_
          refine E_then_ret ?_
          -- return R4
          refine E_ret1 Tryd.results9 rfl (fun w hw => ?_)
          exact ⟨by first | rfl | rw [decide_eq_true rfl], hw.sub (fun x hx => by simp at hx) (by simp [keys])⟩
        · skip
          refine V_go (6, false) rfl ?_
          refine V_mov (.n _) rfl rfl ?_   -- 3.7
          refine V_go (6, false) rfl ?_
          refine V_eql (.n _) rfl rfl rfl ?_   -- 3.8
          refine V_pickF (.n _) rfl rfl rfl ?_   -- 3.9
          refine V_mov (.n _) rfl rfl ?_   -- 3.10
          refine V_split 36 rfl (fun h8 => ?_) (fun h8 => ?_)   -- guard 3.10
          · skip
            refine V_go (10, true) rfl ?_
            refine V_call0 (.n _) Tryd.call17 .nil (fun w1 hw1 => awake_spec w1) rfl trivial ?_   -- 3.11
            refine V_pickT (.n _) rfl rfl rfl ?_   -- 3.12
            refine V_asg (.n _) rfl rfl ?_   -- 3.13
            refine V_sub [(0, _), (1, _), (2, _), (3, _), (4, _), (5, _), (6, _), (25, _)] ⟨rfl, rfl, rfl, rfl, rfl, rfl, rfl, rfl, trivial⟩ ?_
            refine V_nil (.inl rfl) ?_
            refine E_then ?_
            refine J_ret ?_
            refine E_then_ret ?_
            -- return R5
            refine E_ret1 Tryd.results9 rfl (fun w hw => ?_)
            exact ⟨by first | rfl | rw [decide_eq_true rfl], hw.sub (fun x hx => by simp at hx) (by simp [keys])⟩
          · exact (best_err2 (by omega) (by omega) (by omega)).elim
    · skip
      refine J_skip ?_
      refine E_then ?_
      refine J_seq ?_
      refine J_region ?_
      refine V_ldN (.n _) Tryd.isAgg48 Tryd.sizeOf48 rfl (by repeat (first | exact List.Mem.head _ | assumption | apply List.Mem.tail | apply List.mem_append_right)) (by rfl) rfl rfl ?_   -- 4.0
      refine V_alloc (.n _) Tryd.zeroValue48 rfl rfl (fun _ => trivial) (fun b7 => ?_)   -- 4.1
      refine V_stN (.n _) Tryd.sizeOf48 rfl rfl rfl (by simp [Value.oneCell']) (by repeat (first | exact SetAt.z | apply SetAt.s)) rfl rfl ?_   -- 4.2
      refine V_sub [(0, _), (1, _), (2, _), (3, _), (4, _), (5, _), (6, _), (7, _), (25, _)] ⟨rfl, rfl, rfl, rfl, rfl, rfl, rfl, rfl, rfl, trivial⟩ ?_
      refine V_nil (.inl rfl) ?_
      refine E_then ?_
      refine J_seq ?_
      refine J_draw (Gs := _) (cl := [.p, .r, (.u fun v D => ∃ X, D = [X] ∧ Own 49 2 v be.length (Bp be) X), .r, (.u fun v D => ∃ b, v = .slice (some ⟨b, 0, none⟩) 1 1 ∧ D = [.c b 49 [.int .i64 px, .int .i64 py]]), .w, .p, .w]) (by kernel_rfl) (fun _ _ h => h) ?_
      first | refine V_fa0 (.s _ _ _) fo48_2 rfl rfl ?_ | refine V_faz (.s _ _ _) fo48_2 rfl rfl ?_ | refine V_fa (.s _ _ _) fo48_2 rfl rfl ?_   -- 5.0
      refine V_ld (.s _ _ _) Tryd.isAgg46 rfl (by repeat (first | exact List.Mem.head _ | assumption | apply List.Mem.tail | apply List.mem_append_right)) (by rfl) rfl ?_   -- 5.1
      refine V_callU (.s _ _ _) Tryd.call33 (.cons rfl .nil) (fun w1 hw1 => clone2_spec w1 A3 c3 be (by omega) (hp.h3.keep hw1)) rfl (fun _ _ h => h.sublist (by simp)) ?_
      rintro vc _ ⟨Xc, rfl, hown⟩
      refine V_ldN (.s _ _ _) Tryd.isAgg49 Tryd.sizeOf49 rfl (by repeat (first | exact List.Mem.head _ | assumption | apply List.Mem.tail | apply List.mem_append_right)) (by rfl) rfl rfl ?_   -- 5.3
      refine V_litU (.s _ _ _) Tryd.underlying46 Tryd.sizeOf49 Tryd.zeroValue49 (Parts.cons (v := .agg #[.int .i64 px, .int .i64 py]) (us := [.int .i64 px, .int .i64 py]) rfl rfl rfl .nil) rfl rfl rfl (fun _ _ h => h.sublist (by simp)) (fun b44 => ?_)   -- 5.4
      refine V_app (z := 2) (ms := [.int .i64 px, .int .i64 py]) (X := Xc) (G1 := [.c b44 49 [.int .i64 px, .int .i64 py]]) (.s _ _ _) Tryd.underlying46 Tryd.underlying46 Tryd.typeInfo49 rfl rfl rfl rfl rfl rfl rfl rfl hown (fun w1 hw1 => Rd.own hw1 (t := 49) (List.Mem.head _)) (by simp) (by simp [Value.oneCell']) (by omega) rfl ?_
      intro v2 X2 hown2
      rw [Bp_push, show be.length + 1 = (be ++ [(px, py)]).length by simp] at hown2
      obtain ⟨q1, q2, rfl, _⟩ := hown2.is
      first | refine V_fa0 (.s _ _ _) fo48_2 rfl rfl ?_ | refine V_faz (.s _ _ _) fo48_2 rfl rfl ?_ | refine V_fa (.s _ _ _) fo48_2 rfl rfl ?_   -- 5.6
      refine V_stF (.s _ _ _) Tryd.sizeOf46 rfl rfl rfl (by repeat (first | exact SetAt.z | apply SetAt.s)) (by repeat (first | exact LSet.z | apply LSet.s)) ?_   -- 5.7
      refine V_sub [(0, _), (1, _), (2, _), (3, _), (4, _), (5, _), (6, _), (7, _), (25, _)] ⟨rfl, rfl, rfl, rfl, rfl, rfl, rfl, rfl, rfl, trivial⟩ ?_
      refine V_nil (.inr ⟨_, rfl⟩) ?_
      refine E_then ?_
      refine J_seq ?_
      refine J_region ?_
      refine V_ldN (.n _) Tryd.isAgg48 Tryd.sizeOf48 rfl (by repeat (first | exact List.Mem.head _ | assumption | apply List.Mem.tail | apply List.mem_append_right)) (by rfl) rfl rfl ?_   -- 6.0
      refine V_call (post := fun v D => ∃ A1' c1' A2' c2' A3' c3' vs', v = .agg #[.slice A1' (st.take 12).length c1', .slice A2' (ch12 ch).length c2', .slice A3' ((be ++ [(px, py)]).take 42).length c3'] ∧ PRds D A1' A2' A3' vs' (st.take 12) (ch12 ch) ((be ++ [(px, py)]).take 42)) (.n _) Tryd.call32 (.cons rfl .nil) (fun w1 hw1 => of_spec w1 A1 A2 q1 c1 c2 q2 vs st ch (be ++ [(px, py)]) hl1 hl2 (by simp; omega) ⟨hp.h1.keep hw1, hp.h2.keep hw1, hown2.rd (hw1.has _ (by simp))⟩ hc1 hcr) rfl trivial ?_
      rintro _ Dy ⟨a1y, k1y, a2y, k2y, a3y, k3y, usy, rfl, hPy⟩
      refine V_call (post := fun v D => ∃ A c, v = .tuple #[.slice A (bestR st ch (be ++ [(px, py)])).1.length c, .int .i64 (bestR st ch (be ++ [(px, py)])).2] ∧ Rds D A (I (bestR st ch (be ++ [(px, py)])).1)) (.n _) Tryd.call31 (.cons rfl .nil) (fun w1 hw1 => by
        have h := Best_spec w1 a1y a2y a3y k1y k2y k3y usy (st.take 12) (ch12 ch) ((be ++ [(px, py)]).take 42) (by rw [List.length_take]; omega) (by rw [ch12_len]; omega) (by rw [List.length_take]; omega) (hPy.at hw1 (by intro x hx; simp [hx])) ch12_rows
        rw [best_of] at h
        exact h.mono fun e w2 ⟨A, c, D, he, hD, hR⟩ => ⟨_, D, he, hD, A, c, rfl, hR⟩) rfl trivial ?_
      rintro _ Eq ⟨baq, bcq, rfl, hBq⟩
      refine V_mov (.n _) rfl rfl ?_   -- 6.3
      refine V_ext (.n _) rfl rfl rfl ?_   -- 6.4
      refine V_ext (.n _) rfl rfl rfl ?_   -- 6.5
      refine V_asg (.n _) rfl rfl ?_   -- 6.6
      refine V_asg (.n _) rfl rfl ?_   -- 6.7
      refine V_sub [(0, _), (1, _), (2, _), (3, _), (4, _), (5, _), (6, _), (7, _), (8, _), (9, _), (25, _)] ⟨rfl, rfl, rfl, rfl, rfl, rfl, rfl, rfl, rfl, rfl, rfl, trivial⟩ ?_
      refine V_nil (.inl rfl) ?_
      refine E_then ?_
      refine J_seq ?_
      refine J_seq ?_
      refine J_region ?_
      refine V_mov (.n _) rfl rfl ?_   -- 7.0
      refine V_neq (.n _) rfl rfl rfl ?_   -- 7.1
      refine V_sub [(0, _), (1, _), (2, _), (3, _), (4, _), (5, _), (6, _), (7, _), (8, _), (9, _), (25, _), (54, _)] ⟨rfl, rfl, rfl, rfl, rfl, rfl, rfl, rfl, rfl, rfl, rfl, rfl, trivial⟩ ?_
      refine V_nil (.inl rfl) ?_
      refine E_then ?_
      refine J_cond rfl (fun h9 => ?_) (fun h9 => ?_)   -- C1
      · skip
        refine J_seq ?_
        refine J_region ?_
        refine V_mov (.n _) rfl rfl ?_   -- 8.0
        refine V_eql (.n _) rfl rfl rfl ?_   -- 8.1
        refine V_mov (.n _) rfl rfl ?_   -- 8.2
        refine V_split 57 rfl (fun h10 => ?_) (fun h10 => ?_)   -- guard 8.2
        · skip
          refine V_pass (.n .p) (2, false) rfl rfl ?_   -- 8.3
          refine V_pass (.n .p) (2, false) rfl rfl ?_   -- 8.4
          refine V_pass (.n .p) (2, false) rfl rfl ?_   -- 8.5
          refine V_pass (.n .p) (5, true) rfl rfl ?_   -- 8.6
          refine V_pass (.n .p) (5, true) rfl rfl ?_   -- 8.7
          refine V_pass (.n .p) (5, true) rfl rfl ?_   -- 8.8
          refine V_pass (.n .p) (2, false) rfl rfl ?_   -- 8.9
          refine V_pickT (.n _) rfl rfl rfl ?_   -- 8.10
          refine V_mov (.n _) rfl rfl ?_   -- 8.11
          refine V_go (11, true) rfl ?_
          refine V_call0 (.n _) Tryd.call17 .nil (fun w1 hw1 => awake_spec w1) rfl trivial ?_   -- 8.12
          refine V_pickT (.n _) rfl rfl rfl ?_   -- 8.13
          refine V_asg (.n _) rfl rfl ?_   -- 8.14
          refine V_sub [(0, _), (1, _), (2, _), (3, _), (4, _), (5, _), (6, _), (7, _), (8, _), (9, _), (25, _), (54, _)] ⟨rfl, rfl, rfl, rfl, rfl, rfl, rfl, rfl, rfl, rfl, rfl, rfl, trivial⟩ ?_
          refine V_nil (.inl rfl) ?_
          refine E_then ?_
          refine J_ret ?_
          refine E_then_ret ?_
          -- return R6
          refine E_ret1 Tryd.results9 rfl (fun w hw => ?_)
          exact ⟨by first | rfl | rw [decide_eq_true rfl], hw.sub (fun x hx => by simp at hx) (by simp [keys])⟩
        · skip
          refine V_go (2, false) rfl ?_
          refine V_mov (.n _) rfl rfl ?_   -- 8.3
          refine V_go (2, false) rfl ?_
          refine V_eql (.n _) rfl rfl rfl ?_   -- 8.4
          refine V_go (2, false) rfl ?_
          refine V_mov (.n _) rfl rfl ?_   -- 8.5
          refine V_split 60 rfl (fun h11 => ?_) (fun h11 => ?_)   -- guard 8.5
          · skip
            refine V_go (5, true) rfl ?_
            refine V_ldN (.n _) Tryd.isAgg48 Tryd.sizeOf48 rfl (by repeat (first | exact List.Mem.head _ | assumption | apply List.Mem.tail | apply List.mem_append_right)) (by rfl) rfl rfl ?_   -- 8.6
            refine V_go (5, true) rfl ?_
            refine V_call0 (v := .bool false) (.n _) Tryd.call34 (.cons rfl .nil) (fun w1 hw1 => by
            have h := rvalid_spec w1 A1 A2 q1 c1 c2 q2 vs st ch (be ++ [(px, py)]) hl1 hl2 (by simp; omega) ⟨hp.h1.keep hw1, hp.h2.keep hw1, hown2.rd (hw1.has _ (by simp))⟩ hlr
            rw [best_inv (by omega)] at h
            exact h) rfl trivial ?_
            refine V_go (5, true) rfl ?_
            refine V_notB (.n _) rfl rfl ?_   -- 8.8
            refine V_go (2, false) rfl ?_
            refine V_pickT (.n _) rfl rfl rfl ?_   -- 8.9
            refine V_pickF (.n _) rfl rfl rfl ?_   -- 8.10
            refine V_mov (.n _) rfl rfl ?_   -- 8.11
            refine V_go (11, true) rfl ?_
            refine V_call0 (.n _) Tryd.call17 .nil (fun w1 hw1 => awake_spec w1) rfl trivial ?_   -- 8.12
            refine V_pickT (.n _) rfl rfl rfl ?_   -- 8.13
            refine V_asg (.n _) rfl rfl ?_   -- 8.14
            refine V_sub [(0, _), (1, _), (2, _), (3, _), (4, _), (5, _), (6, _), (7, _), (8, _), (9, _), (25, _), (54, _)] ⟨rfl, rfl, rfl, rfl, rfl, rfl, rfl, rfl, rfl, rfl, rfl, rfl, trivial⟩ ?_
            refine V_nil (.inl rfl) ?_
            refine E_then ?_
            refine J_ret ?_
            refine E_then_ret ?_
            -- return R7
            refine E_ret1 Tryd.results9 rfl (fun w hw => ?_)
            exact ⟨by first | rfl | rw [decide_eq_true rfl], hw.sub (fun x hx => by simp at hx) (by simp [keys])⟩
          · exact (best_err2 (st := st) (ch := ch) (be := be ++ [(px, py)]) (by omega) (by omega) (by omega)).elim
      · have hb0 : (bestR st ch be).2 = 0 := by omega
        have hb2 : (bestR st ch (be ++ [(px, py)])).2 = 0 := by omega
        have hz1 : (costR st ch be (bestR st ch be).1).2 = 0 := by rw [best_cost hb0]
        have hz2 := more_good hb0 hb2
        have hz3 := (best_first hb0 hz2).1
        refine J_skip ?_
        refine E_then ?_
        refine J_seq ?_
        refine J_region ?_
        refine V_ldN (.n _) Tryd.isAgg48 Tryd.sizeOf48 rfl (by repeat (first | exact List.Mem.head _ | assumption | apply List.Mem.tail | apply List.mem_append_right)) (by rfl) rfl rfl ?_   -- 9.0
        refine V_call (post := fun v D => ∃ A1' c1' A2' c2' A3' c3' vs', v = .agg #[.slice A1' (st.take 12).length c1', .slice A2' (ch12 ch).length c2', .slice A3' (be.take 42).length c3'] ∧ PRds D A1' A2' A3' vs' (st.take 12) (ch12 ch) (be.take 42)) (.n _) Tryd.call32 (.cons rfl .nil) (fun w1 hw1 => of_spec w1 A1 A2 A3 c1 c2 c3 vs st ch be hl1 hl2 hl3 (hp.keep hw1) hc1 hcr) rfl trivial ?_
        rintro _ Dz ⟨a1z, k1z, a2z, k2z, a3z, k3z, usz, rfl, hPz⟩
        refine V_mov (.n _) rfl rfl ?_   -- 9.2
        refine V_call0 (v := .tuple #[.int .i64 (costR st ch be (bestR st ch be).1).1, .int .i64 (costR st ch be (bestR st ch be).1).2]) (.n _) Tryd.call35 (.cons rfl (.cons rfl .nil)) (fun w1 hw1 => by
        have h := Cost_spec w1 a1z a2z a3z k1z k2z k3z usz (st.take 12) (ch12 ch) (be.take 42) (by rw [List.length_take]; omega) (by rw [ch12_len]; omega) (by rw [List.length_take]; omega) (hPz.at hw1 (by intro x hx; simp [hx])) ch12_rows bap bcp (bestR st ch be).1 (bestR_len st ch be) (hBp.of hw1 (by intro x hx; simp [hx]))
        rw [cost_of] at h
        exact h) rfl trivial ?_
        refine V_mov (.n _) rfl rfl ?_   -- 9.4
        refine V_ext (.n _) rfl rfl rfl ?_   -- 9.5
        refine V_ext (.n _) rfl rfl rfl ?_   -- 9.6
        refine V_asg (.n _) rfl rfl ?_   -- 9.7
        refine V_asg (.n _) rfl rfl ?_   -- 9.8
        refine V_sub [(0, _), (1, _), (2, _), (3, _), (4, _), (5, _), (6, _), (7, _), (8, _), (9, _), (10, _), (25, _), (54, _)] ⟨rfl, rfl, rfl, rfl, rfl, rfl, rfl, rfl, rfl, rfl, rfl, rfl, rfl, trivial⟩ ?_
        refine V_nil (.inl rfl) ?_
        refine E_then ?_
        refine J_seq ?_
        refine J_region ?_
        refine V_ldN (.n _) Tryd.isAgg48 Tryd.sizeOf48 rfl (by repeat (first | exact List.Mem.head _ | assumption | apply List.Mem.tail | apply List.mem_append_right)) (by rfl) rfl rfl ?_   -- 10.0
        refine V_call (post := fun v D => ∃ A1' c1' A2' c2' A3' c3' vs', v = .agg #[.slice A1' (st.take 12).length c1', .slice A2' (ch12 ch).length c2', .slice A3' (be.take 42).length c3'] ∧ PRds D A1' A2' A3' vs' (st.take 12) (ch12 ch) (be.take 42)) (.n _) Tryd.call32 (.cons rfl .nil) (fun w1 hw1 => of_spec w1 A1 A2 A3 c1 c2 c3 vs st ch be hl1 hl2 hl3 (hp.keep hw1) hc1 hcr) rfl trivial ?_
        rintro _ Du ⟨a1u, k1u, a2u, k2u, a3u, k3u, usu, rfl, hPu⟩
        refine V_mov (.n _) rfl rfl ?_   -- 10.2
        refine V_call0 (v := .tuple #[.int .i64 (costR st ch be (bestR st ch (be ++ [(px, py)])).1).1, .int .i64 (costR st ch be (bestR st ch (be ++ [(px, py)])).1).2]) (.n _) Tryd.call35 (.cons rfl (.cons rfl .nil)) (fun w1 hw1 => by
        have h := Cost_spec w1 a1u a2u a3u k1u k2u k3u usu (st.take 12) (ch12 ch) (be.take 42) (by rw [List.length_take]; omega) (by rw [ch12_len]; omega) (by rw [List.length_take]; omega) (hPu.at hw1 (by intro x hx; simp [hx])) ch12_rows baq bcq (bestR st ch (be ++ [(px, py)])).1 (bestR_len st ch (be ++ [(px, py)])) (hBq.of hw1 (by intro x hx; simp [hx]))
        rw [cost_of] at h
        exact h) rfl trivial ?_
        refine V_mov (.n _) rfl rfl ?_   -- 10.4
        refine V_ext (.n _) rfl rfl rfl ?_   -- 10.5
        refine V_ext (.n _) rfl rfl rfl ?_   -- 10.6
        refine V_asg (.n _) rfl rfl ?_   -- 10.7
        refine V_asg (.n _) rfl rfl ?_   -- 10.8
        refine V_sub [(0, _), (1, _), (2, _), (3, _), (4, _), (5, _), (6, _), (7, _), (8, _), (9, _), (10, _), (11, _), (25, _), (54, _)] ⟨rfl, rfl, rfl, rfl, rfl, rfl, rfl, rfl, rfl, rfl, rfl, rfl, rfl, rfl, trivial⟩ ?_
        refine V_nil (.inl rfl) ?_
        refine E_then ?_
        refine J_seq ?_
        refine J_region ?_
        refine V_mov (.n _) rfl rfl ?_   -- 11.0
        refine V_eql (.n _) rfl rfl rfl ?_   -- 11.1
        refine V_mov (.n _) rfl rfl ?_   -- 11.2
        refine V_split 85 rfl (fun h12 => ?_) (fun h12 => ?_)   -- guard 11.2
        · skip
          refine V_go (2, true) rfl ?_
          refine V_mov (.n _) rfl rfl ?_   -- 11.3
          refine V_go (2, true) rfl ?_
          refine V_eql (.n _) rfl rfl rfl ?_   -- 11.4
          refine V_pickT (.n _) rfl rfl rfl ?_   -- 11.5
          refine V_mov (.n _) rfl rfl ?_   -- 11.6
          refine V_split 89 rfl (fun h13 => ?_) (fun h13 => ?_)   -- guard 11.6
          · skip
            refine V_go (6, true) rfl ?_
            refine V_mov (.n _) rfl rfl ?_   -- 11.7
            refine V_go (6, true) rfl ?_
            refine V_mov (.n _) rfl rfl ?_   -- 11.8
            refine V_go (6, true) rfl ?_
            refine V_leq (.n _) rfl rfl rfl ?_   -- 11.9
            refine V_pickT (.n _) rfl rfl rfl ?_   -- 11.10
            refine V_mov (.n _) rfl rfl ?_   -- 11.11
            refine V_split 94 rfl (fun h14 => ?_) (fun h14 => ?_)   -- guard 11.11
            · skip
              refine V_go (11, true) rfl ?_
              refine V_call0 (.n _) Tryd.call17 .nil (fun w1 hw1 => awake_spec w1) rfl trivial ?_   -- 11.12
              refine V_pickT (.n _) rfl rfl rfl ?_   -- 11.13
              refine V_asg (.n _) rfl rfl ?_   -- 11.14
              refine V_sub [(0, _), (1, _), (2, _), (3, _), (4, _), (5, _), (6, _), (7, _), (8, _), (9, _), (10, _), (11, _), (25, _), (54, _)] ⟨rfl, rfl, rfl, rfl, rfl, rfl, rfl, rfl, rfl, rfl, rfl, rfl, rfl, rfl, trivial⟩ ?_
              refine V_nil (.inl rfl) ?_
              refine E_then ?_
              refine J_ret ?_
              -- return R8
              refine E_ret1 Tryd.results9 rfl (fun w hw => ?_)
              exact ⟨by first | rfl | rw [decide_eq_true rfl], hw.sub (fun x hx => by simp at hx) (by simp [keys])⟩
            · exact absurd hz3 h14
          · exact absurd hz2 h13
        · exact absurd hz1 h12

end Go.Proofs.YtgeahmmepfmcoaaDoor
