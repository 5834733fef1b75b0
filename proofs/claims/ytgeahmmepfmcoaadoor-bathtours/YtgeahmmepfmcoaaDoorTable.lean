/- parts that the proof of BathTours uses -/
import Derived.Test.YtgeahmmepfmcoaaDoorAfter
namespace Go.Proofs.YtgeahmmepfmcoaaDoor
open Go Go.RowKit L
set_option linter.unusedVariables false
set_option linter.unusedSimpArgs false

theorem toN (p : Nat) : ((p : Int)).toNat * 1 = p := by simp

theorem table_spec (w : World) (A : Option Addr) (c : Nat) (xs : List (List UInt8)) (hv : validW xs = true) (hr : Rd w A (Ss xs)) :
    Calls Tryd.prog 51 #[.slice A xs.length c] w fun e w' => ∃ v D, e = .returned v ∧ St w D w' ∧ ∃ b, v = .slice (some ⟨b, 0, none⟩) (posN xs) (posN xs) ∧ D = [.c b 3 (I (tableOf xs))] := by
  obtain ⟨hv1, hv2, hv3⟩ := validW_len hv
  have hN := posN_le hv
  have hN0 := posN_pos xs
  refine calls (args := [.slice A xs.length c]) Tryd.func51 rfl Tryd.ntmps51 (Nat.le_of_ble_eq_true rfl) (St.refl w) ?_
  refine J_seq ?_
  refine J_region ?_
  refine V_asg (.n _) rfl rfl ?_   -- 0.0
  refine V_sub [(0, _), (2, _)] ⟨rfl, rfl, trivial⟩ ?_
  refine V_nil (.inl rfl) ?_
  refine E_then ?_
  refine J_seq ?_
  refine J_region ?_
  refine V_mov (.n _) rfl rfl ?_   -- 1.0
  refine V_call0 (.n _) Tryd.call54 (.cons rfl .nil) (fun w1 hw1 => positions_spec w1 A c xs hv (hr.keep hw1)) rfl trivial ?_   -- 1.1
  refine V_make1 (.n _) Tryd.underlying34 Tryd.typeInfo3 rfl rfl rfl rfl rfl rfl (by omega) rfl (fun _ => trivial) (fun b11 => ?_)   -- 1.2
  refine V_asg (.n _) rfl rfl ?_   -- 1.3
  refine V_sub [(0, _), (2, _), (3, _)] ⟨rfl, rfl, rfl, trivial⟩ ?_
  refine V_nil (.inl rfl) ?_
  refine E_then ?_
  refine J_seq ?_
  refine J_seq ?_
  refine J_region ?_
  refine V_mov (.n _) rfl rfl ?_   -- 2.0
  refine V_len (.n _) Tryd.underlying34 rfl rfl ?_   -- 2.1
  refine V_sub1 (.n _) rfl rfl (wrap_ok (by omega)) rfl ?_   -- 2.2
  refine V_asg (.n _) rfl rfl ?_   -- 2.3
  refine V_sub [(0, _), (2, _), (3, _), (4, _)] ⟨rfl, rfl, rfl, rfl, trivial⟩ ?_
  refine V_nil (.inl rfl) ?_
  refine E_then ?_
  refine J_block ?_
  -- loop L0
  refine J_loop (X := Nat) (fun q => [(0, (.slice A xs.length c)), (2, (.slice none 0 0)), (3, (.slice (some ⟨b11, 0, none⟩) (posN xs) (posN xs))), (4, .int .i64 ((q : Int) - 1))]) (fun q => [.c b11 3 (I (tabD xs (posN xs - 1 - q)))]) (fun q => q + 1 ≤ posN xs) (fun q => q) (posN xs - 1) (by refine ⟨?_, ?_, ?_, ?_, trivial⟩ <;> first | rfl | exact int_eq (by omega)) (fun w h => by rw [show posN xs - 1 - (posN xs - 1) = 0 by omega]; simp only [tabD, ← I_rep]; exact h) ?_ ?_
  · omega
  · intro q hq
    refine J_seq ?_
    refine J_seq ?_
    refine J_region ?_
    refine V_mov (.n _) rfl rfl ?_   -- 3.0
    refine V_geq (.n _) rfl rfl rfl ?_   -- 3.1
    refine V_sub [(0, _), (2, _), (3, _), (4, _), (16, _)] ⟨rfl, rfl, rfl, rfl, rfl, trivial⟩ ?_
    refine V_nil (.inl rfl) ?_
    refine E_then ?_
    refine J_cond rfl (fun h1 => ?_) (fun h1 => ?_)   -- C0
    · obtain ⟨p, rfl⟩ : ∃ p, q = p + 1 := ⟨q - 1, by omega⟩
      rw [show (((p + 1 : Nat) : Int) - 1) = (p : Int) by omega]
      refine J_skip ?_
      refine E_then ?_
      refine J_seq ?_
      refine J_block ?_
      refine J_seq ?_
      refine J_region ?_
      refine V_mov (.n _) rfl rfl ?_   -- 5.0
      refine V_mov (.n _) rfl rfl ?_   -- 5.1
      refine V_ix (.n _) Tryd.underlying34 Tryd.sizeOf3 rfl rfl (by omega) (by omega) rfl ?_   -- 5.2
      refine V_st (cs' := I ((tabD xs (posN xs - 1 - (p + 1))).set p far)) (.n _) Tryd.sizeOf3 rfl rfl rfl .z (by rw [toN]; exact I_set _ _ _) (by rw [I_length, tabD_length]; omega) ?_   -- 5.3
      refine V_sub [(0, _), (2, _), (3, _), (4, _), (16, _)] ⟨rfl, rfl, rfl, rfl, rfl, trivial⟩ ?_
      refine V_nil (.inl rfl) ?_
      refine E_then ?_
      refine J_seq ?_
      refine J_region ?_
      refine V_lit (.n _) Tryd.underlying76 Tryd.sizeOf5 Tryd.zeroValue5 (.cons rfl rfl rfl (.cons rfl rfl rfl (.cons rfl rfl rfl (.cons rfl rfl rfl (.cons rfl rfl rfl (.cons rfl rfl rfl (.cons rfl rfl rfl (.cons rfl rfl rfl .nil)))))))) rfl rfl rfl (fun _ => trivial) (fun b22 => ?_)   -- 6.0
      refine V_mark (.n _) Tryd.underlying76 Tryd.underlying5 rfl (by repeat (first | exact SetAt.z | apply SetAt.s)) rfl ?_   -- 6.1
      refine V_len (.n _) Tryd.underlying76 rfl rfl ?_   -- 6.2
      refine V_mov (.n _) rfl rfl ?_   -- 6.3
      refine V_sub [(0, _), (2, _), (3, _), (4, _), (16, _), (23, _), (24, _), (25, _)] ⟨rfl, rfl, rfl, rfl, rfl, rfl, rfl, rfl, trivial⟩ ?_
      refine V_nil (.inl rfl) ?_
      refine E_then ?_
      refine J_block ?_
      -- loop L1
      refine J_loop (X := Nat) (fun j => [(0, (.slice A xs.length c)), (2, (.slice none 0 0)), (3, (.slice (some ⟨b11, 0, none⟩) (posN xs) (posN xs))), (4, .int .i64 (p : Nat)), (23, (.slice (some ⟨b22, 0, none⟩) 8 8)), (24, .int .i64 8), (25, .int .i64 (j : Nat))]) (fun j => [.f b22 5 (By letters) (8, 9), .c b11 3 (I ((tabD xs (posN xs - 1 - (p + 1))).set p (bestOf xs (tabD xs (posN xs - 1 - (p + 1))) p (letters.take j))))]) (fun j => j ≤ 8) (fun j => 8 - j) (0) (by refine ⟨?_, ?_, ?_, ?_, ?_, ?_, ?_, trivial⟩ <;> first | rfl | exact int_eq (by omega)) (fun w h => h) ?_ ?_
      · omega
      · intro j hj
        refine J_seq ?_
        refine J_region ?_
        refine V_lss (.n _) rfl rfl rfl ?_   -- 7.0
        refine V_sub [(0, _), (2, _), (3, _), (4, _), (23, _), (24, _), (25, _), (26, _)] ⟨rfl, rfl, rfl, rfl, rfl, rfl, rfl, rfl, trivial⟩ ?_
        refine V_nil (.inl rfl) ?_
        refine E_then ?_
        refine J_seq ?_
        refine J_cond rfl (fun h2 => ?_) (fun h2 => ?_)   -- C1
        · skip
          refine J_skip ?_
          refine E_then ?_
          refine J_seq ?_
          refine J_block ?_
          refine J_seq ?_
          refine J_region ?_
          refine V_ix (.n _) Tryd.underlying76 Tryd.sizeOf5 rfl rfl (by omega) (by omega) rfl ?_   -- 8.0
          refine V_ldf (.n _) Tryd.isAgg5 rfl (by repeat (first | exact List.Mem.head _ | assumption | apply List.Mem.tail)) (By_getN (xs := letters) (by show j < 8; omega)) rfl ?_   -- 8.1
          refine V_asg (.n _) rfl rfl ?_   -- 8.2
          refine V_sub [(0, _), (2, _), (3, _), (4, _), (6, _), (23, _), (24, _), (25, _), (26, _)] ⟨rfl, rfl, rfl, rfl, rfl, rfl, rfl, rfl, rfl, trivial⟩ ?_
          refine V_nil (.inl rfl) ?_
          refine E_then ?_
          refine J_seq ?_
          refine J_region ?_
          refine V_mov (.n _) rfl rfl ?_   -- 9.0
          refine V_mov (.n _) rfl rfl ?_   -- 9.1
          refine V_mov (.n _) rfl rfl ?_   -- 9.2
          refine V_call0 (.n _) Tryd.call52 (.cons rfl (.cons rfl (.cons rfl .nil))) (fun w1 hw1 => after_spec w1 A c xs p (letters.getD j 0) hv (by omega) (hr.keep hw1)) rfl trivial ?_   -- 9.3
          generalize hcc : letters.getD j 0 = cc
          refine V_mov (.n _) rfl rfl ?_   -- 9.4
          refine V_ext (.n _) rfl rfl rfl ?_   -- 9.5
          refine V_ext (.n _) rfl rfl rfl ?_   -- 9.6
          refine V_asg (.n _) rfl rfl ?_   -- 9.7
          refine V_asg (.n _) rfl rfl ?_   -- 9.8
          refine V_sub [(0, _), (2, _), (3, _), (4, _), (6, _), (7, _), (8, _), (23, _), (24, _), (25, _), (26, _)] ⟨rfl, rfl, rfl, rfl, rfl, rfl, rfl, rfl, rfl, rfl, rfl, trivial⟩ ?_
          refine V_nil (.inl rfl) ?_
          refine E_then ?_
          refine J_seq ?_
          refine J_region ?_
          refine V_mov (.n _) rfl rfl ?_   -- 10.0
          refine V_sub [(0, _), (2, _), (3, _), (4, _), (6, _), (7, _), (8, _), (23, _), (24, _), (25, _), (26, _), (36, _)] ⟨rfl, rfl, rfl, rfl, rfl, rfl, rfl, rfl, rfl, rfl, rfl, rfl, trivial⟩ ?_
          refine V_nil (.inl rfl) ?_
          refine E_then ?_
          refine J_cond rfl (fun h3 => ?_) (fun h3 => ?_)   -- C2
          · have hal := adv_lt (show p < posN xs by omega) cc
            have hbd := tabD_bd xs (posN xs - 1 - (p + 1)) (p + adv cc xs p 1)
            have hfar : far = 1099511627776 := rfl
            refine J_draw (Gs := _) (cl := [.p, .p, .p, .p, .p, .r, .p, .p, .p, .r, .p, .p, .p, .w]) (by kernel_rfl) (fun _ _ h => h) ?_
            refine V_mov (.s _ _ _) rfl rfl ?_   -- 11.0
            refine V_mov (.s _ _ _) rfl rfl ?_   -- 11.1
            refine V_mov (.s _ _ _) rfl rfl ?_   -- 11.2
            refine V_mov (.s _ _ _) rfl rfl ?_   -- 11.3
            refine V_ix (.s _ _ _) Tryd.underlying34 Tryd.sizeOf3 rfl rfl (by omega) (by omega) rfl ?_   -- 11.4
            refine V_ld (.s _ _ _) Tryd.isAgg3 rfl (by repeat (first | exact List.Mem.head _ | assumption | apply List.Mem.tail)) (I_getN (i := p) (by rw [List.length_set, tabD_length]; omega)) rfl ?_   -- 11.5
            refine V_mov (.s _ _ _) rfl rfl ?_   -- 11.6
            refine V_mov (.s _ _ _) rfl rfl ?_   -- 11.7
            refine V_ix (.s _ _ _) Tryd.underlying34 Tryd.sizeOf3 rfl rfl (by omega) (by omega) rfl ?_   -- 11.8
            rw [getD_set, if_pos ⟨rfl, by rw [tabD_length]; omega⟩]
            refine V_ld (.s _ _ _) Tryd.isAgg3 rfl (by repeat (first | exact List.Mem.head _ | assumption | apply List.Mem.tail)) (I_getN (i := p + adv cc xs p 1) (by rw [List.length_set, tabD_length]; omega)) rfl ?_   -- 11.9
            rw [getD_set, if_neg (by omega)]
            refine V_add (.s _ _ _) rfl rfl (wrap_ok (by omega)) rfl ?_   -- 11.10
            refine V_min (.s _ _ _) rfl rfl rfl ?_   -- 11.11
            refine V_ix (.s _ _ _) Tryd.underlying34 Tryd.sizeOf3 rfl rfl (by omega) (by omega) rfl ?_   -- 11.12
            refine V_st (cs' := I (((tabD xs (posN xs - 1 - (p + 1))).set p (bestOf xs (tabD xs (posN xs - 1 - (p + 1))) p (letters.take j))).set p (min (bestOf xs (tabD xs (posN xs - 1 - (p + 1))) p (letters.take j)) ((tabD xs (posN xs - 1 - (p + 1))).getD (p + adv cc xs p 1) 0 + 1)))) (.s _ _ _) Tryd.sizeOf3 rfl rfl rfl (.s .z) (by rw [toN]; exact I_set _ _ _) (by rw [I_length, List.length_set, tabD_length]; omega) ?_   -- 11.13
            refine V_sub [(0, _), (2, _), (3, _), (4, _), (6, _), (7, _), (8, _), (23, _), (24, _), (25, _), (26, _), (36, _)] ⟨rfl, rfl, rfl, rfl, rfl, rfl, rfl, rfl, rfl, rfl, rfl, rfl, trivial⟩ ?_
            refine V_nil (.inr ⟨_, rfl⟩) ?_
            refine E_blk ?_
            refine E_then ?_
            refine J_region ?_
            refine V_add (.n _) rfl rfl (wrap_ok (by omega)) rfl ?_   -- 12.0
            refine V_mov (.n _) rfl rfl ?_   -- 12.1
            refine V_sub [(0, _), (2, _), (3, _), (4, _), (6, _), (7, _), (8, _), (23, _), (24, _), (25, _), (26, _), (36, _)] ⟨rfl, rfl, rfl, rfl, rfl, rfl, rfl, rfl, rfl, rfl, rfl, rfl, trivial⟩ ?_
            refine V_nil (.inl rfl) ?_
            -- again L1 0
            refine E_again (j + 1) ?_ ?_ ?_ (fun w h => by rw [best_snoc (by show j < 8; omega), hcc, if_pos (by assumption)]; rw [List.set_set] at h; exact h)
            · omega
            · omega
            · refine ⟨?_, ?_, ?_, ?_, ?_, ?_, ?_, trivial⟩ <;> first | rfl | exact int_eq (by omega) | exact int_eq (by dsimp only; omega)
          · skip
            refine J_skip ?_
            refine E_blk ?_
            refine E_then ?_
            refine J_region ?_
            refine V_add (.n _) rfl rfl (wrap_ok (by omega)) rfl ?_   -- 12.0
            refine V_mov (.n _) rfl rfl ?_   -- 12.1
            refine V_sub [(0, _), (2, _), (3, _), (4, _), (6, _), (7, _), (8, _), (23, _), (24, _), (25, _), (26, _), (36, _)] ⟨rfl, rfl, rfl, rfl, rfl, rfl, rfl, rfl, rfl, rfl, rfl, rfl, trivial⟩ ?_
            refine V_nil (.inl rfl) ?_
            -- again L1 1
            refine E_again (j + 1) ?_ ?_ ?_ (fun w h => by rw [best_snoc (by show j < 8; omega), hcc, if_neg (by assumption)]; exact h)
            · omega
            · omega
            · refine ⟨?_, ?_, ?_, ?_, ?_, ?_, ?_, trivial⟩ <;> first | rfl | exact int_eq (by omega) | exact int_eq (by dsimp only; omega)
        · skip
          refine J_exit ?_
          refine E_then_exit ?_
          refine E_lp_exit ?_
          refine E_blk_hit ?_
          refine E_blk ?_
          refine E_then ?_
          refine J_region ?_
          refine V_mov (.n _) rfl rfl ?_   -- 4.0
          refine V_sub1 (.n _) rfl rfl (wrap_ok (by omega)) rfl ?_   -- 4.1
          refine V_asg (.n _) rfl rfl ?_   -- 4.2
          refine V_sub [(0, _), (2, _), (3, _), (4, _), (23, _), (24, _), (25, _), (26, _)] ⟨rfl, rfl, rfl, rfl, rfl, rfl, rfl, rfl, trivial⟩ ?_
          refine V_nil (.inl rfl) ?_
          -- again L0 0
          obtain rfl : j = 8 := by omega
          refine E_again (p) ?_ ?_ ?_ (fun w h => by rw [tabD_step (by omega)]; exact h.sublist (by simp [show letters.take 8 = letters from rfl]))
          · omega
          · omega
          · refine ⟨?_, ?_, ?_, ?_, trivial⟩ <;> first | rfl | exact int_eq (by omega) | exact int_eq (by dsimp only; omega)
    · skip
      refine J_exit ?_
      refine E_then_exit ?_
      refine E_lp_exit ?_
      refine E_blk_hit ?_
      refine E_then ?_
      refine J_seq ?_
      refine J_region ?_
      refine V_mov (.n _) rfl rfl ?_   -- 13.0
      refine V_asg (.n _) rfl rfl ?_   -- 13.1
      refine V_sub [(0, _), (2, _), (3, _), (4, _), (16, _)] ⟨rfl, rfl, rfl, rfl, rfl, trivial⟩ ?_
      refine V_nil (.inl rfl) ?_
      refine E_then ?_
      refine J_ret ?_
      -- return R0
      refine E_ret1 Tryd.results51 rfl (fun w hw => ?_)
      refine ⟨_, _, rfl, hw, b11, rfl, ?_⟩
      rw [show q = 0 by omega]; rfl

end Go.Proofs.YtgeahmmepfmcoaaDoor
