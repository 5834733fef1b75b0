/- parts of the proofs of the bath statements -/
import Derived.Test.YtgeahmmepfmcoaaDoorAfter
import Derived.Test.YtgeahmmepfmcoaaDoorTable
namespace Go.Proofs.YtgeahmmepfmcoaaDoor
open Go Go.RowKit L
set_option linter.unusedVariables false
set_option linter.unusedSimpArgs false

def cstep (xs : List (List UInt8)) (tl tc : List Int) (p : Nat) (s : Int × Int) (c : UInt8) : Int × Int :=
  if 0 < adv c xs p 1 then (if tl.getD (p + adv c xs p 1) 0 + 1 > s.1 then s else if tl.getD (p + adv c xs p 1) 0 + 1 = s.1 then (s.1, IntKind.i64.wrap (s.2 + tc.getD (p + adv c xs p 1) 0)) else (tl.getD (p + adv c xs p 1) 0 + 1, tc.getD (p + adv c xs p 1) 0)) else s
def cBest (xs : List (List UInt8)) (tl tc : List Int) (p : Nat) (l : List UInt8) : Int × Int := l.foldl (cstep xs tl tc p) (far, tc.getD p 0)
def cnt (xs : List (List UInt8)) : Nat → List Int
  | 0 => (List.replicate (posN xs) 0).set (posN xs - 1) 1
  | k + 1 => (cnt xs k).set (posN xs - 2 - k) (cBest xs (tabD xs k) (cnt xs k) (posN xs - 2 - k) letters).2
def counts (xs : List (List UInt8)) : List Int := cnt xs (posN xs - 1)
theorem cnt_length (xs : List (List UInt8)) (k : Nat) : (cnt xs k).length = posN xs := by
  induction k with
  | zero => simp [cnt]
  | succ k ih => simp [cnt, ih]
theorem cBest_fst (xs : List (List UInt8)) (tl tc : List Int) (p : Nat) (l : List UInt8) : (cBest xs tl tc p l).1 = bestOf xs tl p l := by
  have key : ∀ (l : List UInt8) (m n : Int), (l.foldl (cstep xs tl tc p) (m, n)).1 = l.foldl (fun m c => if 0 < adv c xs p 1 then min m (tl.getD (p + adv c xs p 1) 0 + 1) else m) m := by
    intro l
    induction l with
    | nil => intro m n; rfl
    | cons c l ih =>
      intro m n
      simp only [List.foldl_cons]
      rw [← ih _ (cstep xs tl tc p (m, n) c).2]
      congr 2
      refine Prod.ext ?_ rfl
      simp only [cstep]
      split
      · split
        · show m = _; omega
        · split
          · show m = _; omega
          · show _ = min _ _; omega
      · rfl
  exact key l far _
theorem cb_snoc {xs : List (List UInt8)} {tl tc : List Int} {p j : Nat} (h : j < 8) : cBest xs tl tc p (letters.take (j + 1)) = cstep xs tl tc p (cBest xs tl tc p (letters.take j)) (letters.getD j 0) := by
  rw [List.take_succ_eq_append_getElem (show j < letters.length from h)]
  have h' : j < letters.length := h
  have : letters[j]'h' = letters.getD j 0 := by simp [h']
  rw [this]
  simp only [cBest, List.foldl_append, List.foldl_cons, List.foldl_nil]
theorem set_same (t : List Int) (p : Nat) : t.set p (t.getD p 0) = t := by
  by_cases h : p < t.length
  · simp [h]
  · rw [List.set_eq_of_length_le (by omega)]
theorem cnt_step {xs : List (List UInt8)} {p : Nat} (h : p + 2 ≤ posN xs) : cnt xs (posN xs - 1 - p) = (cnt xs (posN xs - 1 - (p + 1))).set p (cBest xs (tabD xs (posN xs - 1 - (p + 1))) (cnt xs (posN xs - 1 - (p + 1))) p letters).2 := by
  have e : posN xs - 1 - p = (posN xs - 1 - (p + 1)) + 1 := by omega
  have e2 : posN xs - 2 - (posN xs - 1 - (p + 1)) = p := by omega
  rw [e, cnt, e2]

theorem reftable_spec (w : World) (A : Option Addr) (c : Nat) (xs : List (List UInt8)) (hv : validW xs = true) (hr : Rd w A (Ss xs)) :
    Calls Tryd.prog 64 #[.slice A xs.length c] w fun e w' => ∃ v D, e = .returned v ∧ St w D w' ∧ ∃ b b2, v = .tuple #[.slice (some ⟨b, 0, none⟩) (posN xs) (posN xs), .slice (some ⟨b2, 0, none⟩) (posN xs) (posN xs)] ∧ D = [.c b2 3 (I (counts xs)), .c b 3 (I (tableOf xs))] := by
  obtain ⟨hv1, hv2, hv3⟩ := validW_len hv
  have hN := posN_le hv
  have hN0 := posN_pos xs
  refine calls (args := [.slice A xs.length c]) Tryd.func64 rfl Tryd.ntmps64 (Nat.le_of_ble_eq_true rfl) (St.refl w) ?_
  refine J_seq ?_
  refine J_region ?_
  refine V_asg (.n _) rfl rfl ?_   -- 0.0
  refine V_asg (.n _) rfl rfl ?_   -- 0.1
  refine V_sub [(0, _), (2, _), (3, _)] ⟨rfl, rfl, rfl, trivial⟩ ?_
  refine V_nil (.inl rfl) ?_
  refine E_then ?_
  refine J_seq ?_
  refine J_region ?_
  refine V_mov (.n _) rfl rfl ?_   -- 1.0
  refine V_call0 (.n _) Tryd.call65 (.cons rfl .nil) (fun w1 hw1 => size_spec w1 A c xs hv (hr.keep hw1)) rfl trivial ?_   -- 1.1
  refine V_asg (.n _) rfl rfl ?_   -- 1.2
  refine V_sub [(0, _), (2, _), (3, _), (4, _)] ⟨rfl, rfl, rfl, rfl, trivial⟩ ?_
  refine V_nil (.inl rfl) ?_
  refine E_then ?_
  refine J_seq ?_
  refine J_draw (Gs := _) (cl := [.p, (.u fun v D => ∃ b, v = .slice (some ⟨b, 0, none⟩) (posN xs) (posN xs) ∧ D = [.c b 3 (List.replicate (posN xs) (.int .i64 0))]), .p, (.u fun v D => ∃ b, v = .slice (some ⟨b, 0, none⟩) (posN xs) (posN xs) ∧ D = [.c b 3 (List.replicate (posN xs) (.int .i64 0))]), .p, .p]) (by kernel_rfl) (fun _ _ h => h) ?_
  refine V_mov (.s _ _ _) rfl rfl ?_   -- 2.0
  refine V_make1U (.s _ _ _) Tryd.underlying34 Tryd.typeInfo3 rfl rfl rfl rfl rfl rfl (by omega) rfl (fun _ _ h => h.sublist (by simp)) (fun b14 => ?_)   -- 2.1
  refine V_mov (.s _ _ _) rfl rfl ?_   -- 2.2
  refine V_make1U (.s _ _ _) Tryd.underlying34 Tryd.typeInfo3 rfl rfl rfl rfl rfl rfl (by omega) rfl (fun _ _ h => h.sublist (by simp)) (fun b16 => ?_)   -- 2.3
  refine V_asg (.s _ _ _) rfl rfl ?_   -- 2.4
  refine V_asg (.s _ _ _) rfl rfl ?_   -- 2.5
  refine V_sub [(0, _), (2, _), (3, _), (4, _), (5, _), (6, _)] ⟨rfl, rfl, rfl, rfl, rfl, rfl, trivial⟩ ?_
  refine V_nil (.inr ⟨_, rfl⟩) ?_
  refine E_then ?_
  refine J_seq ?_
  refine J_region ?_
  refine V_mov (.n _) rfl rfl ?_   -- 3.0
  refine V_mov (.n _) rfl rfl ?_   -- 3.1
  refine V_sub1 (.n _) rfl rfl (wrap_ok (by omega)) rfl ?_   -- 3.2
  rw [show ((posN xs : Nat) : Int) - 1 = ((posN xs - 1 : Nat) : Int) by omega]
  refine V_ix (.n _) Tryd.underlying34 Tryd.sizeOf3 rfl rfl (by omega) (by omega) rfl ?_   -- 3.3
  rw [I_rep]
  refine V_st (cs' := I (cnt xs 0)) (.n _) Tryd.sizeOf3 rfl rfl rfl .z (by rw [toN]; exact I_set _ _ _) (by simp; omega) ?_   -- 3.4
  refine V_sub [(0, _), (2, _), (3, _), (4, _), (5, _), (6, _)] ⟨rfl, rfl, rfl, rfl, rfl, rfl, trivial⟩ ?_
  refine V_nil (.inl rfl) ?_
  refine E_then ?_
  refine J_seq ?_
  refine J_seq ?_
  refine J_region ?_
  refine V_mov (.n _) rfl rfl ?_   -- 4.0
  refine V_sub1 (.n _) rfl rfl (wrap_ok (by omega)) rfl ?_   -- 4.1
  refine V_asg (.n _) rfl rfl ?_   -- 4.2
  refine V_sub [(0, _), (2, _), (3, _), (4, _), (5, _), (6, _), (7, _)] ⟨rfl, rfl, rfl, rfl, rfl, rfl, rfl, trivial⟩ ?_
  refine V_nil (.inl rfl) ?_
  refine E_then ?_
  refine J_block ?_
  -- loop L0
  refine J_loop (X := Nat) (fun q => [(0, (.slice A xs.length c)), (2, (.slice none 0 0)), (3, (.slice none 0 0)), (4, .int .i64 (posN xs : Nat)), (5, (.slice (some ⟨b14, 0, none⟩) (posN xs) (posN xs))), (6, (.slice (some ⟨b16, 0, none⟩) (posN xs) (posN xs))), (7, .int .i64 ((q : Int) - 1))]) (fun q => [.c b16 3 (I (cnt xs (posN xs - 1 - q))), .c b14 3 (I (tabD xs (posN xs - 1 - q)))]) (fun q => q + 1 ≤ posN xs) (fun q => q) (posN xs - 1) (by refine ⟨?_, ?_, ?_, ?_, ?_, ?_, ?_, trivial⟩ <;> first | rfl | exact int_eq (by omega)) (fun w h => by rw [show posN xs - 1 - (posN xs - 1) = 0 by omega]; exact h) ?_ ?_
  · omega
  · intro q hq
    refine J_seq ?_
    refine J_seq ?_
    refine J_region ?_
    refine V_mov (.n _) rfl rfl ?_   -- 5.0
    refine V_geq (.n _) rfl rfl rfl ?_   -- 5.1
    refine V_sub [(0, _), (2, _), (3, _), (4, _), (5, _), (6, _), (7, _), (24, _)] ⟨rfl, rfl, rfl, rfl, rfl, rfl, rfl, rfl, trivial⟩ ?_
    refine V_nil (.inl rfl) ?_
    refine E_then ?_
    refine J_cond rfl (fun h1 => ?_) (fun h1 => ?_)   -- C0
    · obtain ⟨p, rfl⟩ : ∃ p, q = p + 1 := ⟨q - 1, by omega⟩
      rw [show (((p + 1 : Nat) : Int) - 1) = (p : Int) by omega]
      refine J_skip ?_
      refine E_then ?_
      refine J_seq ?_
      refine J_block ?_
      refine J_seq ?_
      refine J_region ?_
      refine V_mov (.n _) rfl rfl ?_   -- 7.0
      refine V_mov (.n _) rfl rfl ?_   -- 7.1
      refine V_ix (.n _) Tryd.underlying34 Tryd.sizeOf3 rfl rfl (by omega) (by omega) rfl ?_   -- 7.2
      refine V_st (cs' := I ((tabD xs (posN xs - 1 - (p + 1))).set p far)) (.n _) Tryd.sizeOf3 rfl rfl rfl (.s .z) (by rw [toN]; exact I_set _ _ _) (by rw [I_length, tabD_length]; omega) ?_   -- 7.3
      refine V_sub [(0, _), (2, _), (3, _), (4, _), (5, _), (6, _), (7, _), (24, _)] ⟨rfl, rfl, rfl, rfl, rfl, rfl, rfl, rfl, trivial⟩ ?_
      refine V_nil (.inl rfl) ?_
      refine E_then ?_
      refine J_seq ?_
      refine J_region ?_
      refine V_mov (.n _) rfl rfl ?_   -- 8.0
      refine V_sub [(0, _), (2, _), (3, _), (4, _), (5, _), (6, _), (7, _), (24, _), (30, _)] ⟨rfl, rfl, rfl, rfl, rfl, rfl, rfl, rfl, rfl, trivial⟩ ?_
      refine V_nil (.inl rfl) ?_
      refine E_then ?_
      refine J_block ?_
      -- loop L1
      refine J_loop (X := Nat) (fun j => [(0, (.slice A xs.length c)), (2, (.slice none 0 0)), (3, (.slice none 0 0)), (4, .int .i64 (posN xs : Nat)), (5, (.slice (some ⟨b14, 0, none⟩) (posN xs) (posN xs))), (6, (.slice (some ⟨b16, 0, none⟩) (posN xs) (posN xs))), (7, .int .i64 (p : Nat)), (30, .int .i64 (j : Nat))]) (fun j => [.c b16 3 (I ((cnt xs (posN xs - 1 - (p + 1))).set p (cBest xs (tabD xs (posN xs - 1 - (p + 1))) (cnt xs (posN xs - 1 - (p + 1))) p (letters.take j)).2)), .c b14 3 (I ((tabD xs (posN xs - 1 - (p + 1))).set p (cBest xs (tabD xs (posN xs - 1 - (p + 1))) (cnt xs (posN xs - 1 - (p + 1))) p (letters.take j)).1))]) (fun j => j ≤ 8) (fun j => 8 - j) (0) (by refine ⟨?_, ?_, ?_, ?_, ?_, ?_, ?_, ?_, trivial⟩ <;> first | rfl | exact int_eq (by omega)) (fun w h => by rw [show letters.take 0 = [] from rfl, cBest, List.foldl_nil]; simp only [set_same]; exact h) ?_ ?_
      · omega
      · intro j hj
        refine J_seq ?_
        refine J_region ?_
        refine V_lss (.n _) rfl rfl rfl ?_   -- 9.0
        refine V_sub [(0, _), (2, _), (3, _), (4, _), (5, _), (6, _), (7, _), (30, _), (31, _)] ⟨rfl, rfl, rfl, rfl, rfl, rfl, rfl, rfl, rfl, trivial⟩ ?_
        refine V_nil (.inl rfl) ?_
        refine E_then ?_
        refine J_seq ?_
        refine J_cond rfl (fun h2 => ?_) (fun h2 => ?_)   -- C1
        · skip
          refine J_skip ?_
          refine E_then ?_
          refine J_seq ?_
          refine J_block ?_
          refine J_seq ?_
          refine J_region ?_
          refine V_mov (.n _) rfl rfl ?_   -- 10.0
          refine V_asg (.n _) rfl rfl ?_   -- 10.1
          refine V_sub [(0, _), (2, _), (3, _), (4, _), (5, _), (6, _), (7, _), (8, _), (30, _), (31, _)] ⟨rfl, rfl, rfl, rfl, rfl, rfl, rfl, rfl, rfl, rfl, trivial⟩ ?_
          refine V_nil (.inl rfl) ?_
          refine E_then ?_
          refine J_seq ?_
          refine J_region ?_
          refine V_mov (.n _) rfl rfl ?_   -- 11.0
          refine V_mov (.n _) rfl rfl ?_   -- 11.1
          refine V_mov (.n _) rfl rfl ?_   -- 11.2
          refine V_sidx (p := letters) (.n _) Tryd.underlying9 rfl rfl (by omega) (by show ((j : Nat) : Int) < 8; omega) rfl ?_   -- 11.3
          rw [show letters.getD ((j : Nat) : Int).toNat 0 = letters.getD j 0 by simp]
          generalize hcc : letters.getD j 0 = cc
          refine V_call0 (.n _) Tryd.call67 (.cons rfl (.cons rfl (.cons rfl .nil))) (fun w1 hw1 => moved_spec w1 A c xs p cc hv (by omega) (hr.keep hw1)) rfl trivial ?_   -- 11.4
          have hal := adv_lt (show p < posN xs by omega) cc
          have hbd := tabD_bd xs (posN xs - 1 - (p + 1)) (p + adv cc xs p 1)
          have hcb := cBest_fst xs (tabD xs (posN xs - 1 - (p + 1))) (cnt xs (posN xs - 1 - (p + 1))) p (letters.take j)
          have hfar : far = 1099511627776 := rfl
          have hcs := cb_snoc (xs := xs) (tl := (tabD xs (posN xs - 1 - (p + 1)))) (tc := (cnt xs (posN xs - 1 - (p + 1)))) (p := p) (show j < 8 by omega)
          rw [hcc, cstep] at hcs
          refine V_mov (.n _) rfl rfl ?_   -- 11.5
          refine V_ext (.n _) rfl rfl rfl ?_   -- 11.6
          refine V_ext (.n _) rfl rfl rfl ?_   -- 11.7
          refine V_asg (.n _) rfl rfl ?_   -- 11.8
          refine V_asg (.n _) rfl rfl ?_   -- 11.9
          refine V_sub [(0, _), (2, _), (3, _), (4, _), (5, _), (6, _), (7, _), (8, _), (9, _), (10, _), (30, _), (31, _)] ⟨rfl, rfl, rfl, rfl, rfl, rfl, rfl, rfl, rfl, rfl, rfl, rfl, trivial⟩ ?_
          refine V_nil (.inl rfl) ?_
          refine E_then ?_
          refine J_block ?_
          refine J_seq ?_
          refine J_draw (Gs := _) (cl := [.p, .p, .p, .p, .p, .p, .r, .p, .p, .p, .p, .r, .p, .p, .p]) (by kernel_rfl) (fun _ _ h => h) ?_
          refine V_mov (.s _ _ _) rfl rfl ?_   -- 13.0
          refine V_not (.s _ _ _) rfl rfl ?_   -- 13.1
          refine V_mov (.s _ _ _) rfl rfl ?_   -- 13.2
          refine V_split 59 rfl (fun h3 => ?_) (fun h3 => ?_)   -- guard 13.2
          · skip
            refine V_pass (.s _ _ _) (2, false) rfl rfl ?_   -- 13.3
            refine V_pass (.s _ _ _) (2, false) rfl rfl ?_   -- 13.4
            refine V_pass (.s _ _ _) (2, false) rfl rfl ?_   -- 13.5
            refine V_pass (.s _ _ _) (2, false) rfl rfl ?_   -- 13.6
            refine V_pass (.s _ _ _) (2, false) rfl rfl ?_   -- 13.7
            refine V_pass (.s _ _ _) (2, false) rfl rfl ?_   -- 13.8
            refine V_pass (.s _ _ _) (2, false) rfl rfl ?_   -- 13.9
            refine V_pass (.s _ _ _) (2, false) rfl rfl ?_   -- 13.10
            refine V_pass (.s _ _ _) (2, false) rfl rfl ?_   -- 13.11
            refine V_pass (.s _ _ _) (2, false) rfl rfl ?_   -- 13.12
            refine V_pickT (.s _ _ _) rfl rfl rfl ?_   -- 13.13
            refine V_asg (.s _ _ _) rfl rfl ?_   -- 13.14
            refine V_sub [(0, _), (2, _), (3, _), (4, _), (5, _), (6, _), (7, _), (8, _), (9, _), (10, _), (30, _), (31, _), (56, _)] ⟨rfl, rfl, rfl, rfl, rfl, rfl, rfl, rfl, rfl, rfl, rfl, rfl, rfl, trivial⟩ ?_
            refine V_nil (.inr ⟨_, rfl⟩) ?_
            refine E_then ?_
            refine J_condT rfl ?_
            refine J_skip ?_
            refine E_blk ?_
            refine E_blk ?_
            refine E_then ?_
            refine J_region ?_
            refine V_add (.n _) rfl rfl (wrap_ok (by omega)) rfl ?_   -- 16.0
            refine V_mov (.n _) rfl rfl ?_   -- 16.1
            refine V_sub [(0, _), (2, _), (3, _), (4, _), (5, _), (6, _), (7, _), (8, _), (9, _), (10, _), (30, _), (31, _), (56, _)] ⟨rfl, rfl, rfl, rfl, rfl, rfl, rfl, rfl, rfl, rfl, rfl, rfl, rfl, trivial⟩ ?_
            refine V_nil (.inl rfl) ?_
            -- again L1 0
            refine E_again (j + 1) ?_ ?_ ?_ (fun w h => by rw [hcs, if_neg (by assumption)]; exact h)
            · omega
            · omega
            · refine ⟨?_, ?_, ?_, ?_, ?_, ?_, ?_, ?_, trivial⟩ <;> first | rfl | exact int_eq (by omega) | exact int_eq (by dsimp only; omega)
          · replace h3 := Classical.not_not.1 h3
            refine V_go (2, false) rfl ?_
            refine V_mov (.s _ _ _) rfl rfl ?_   -- 13.3
            refine V_go (2, false) rfl ?_
            refine V_mov (.s _ _ _) rfl rfl ?_   -- 13.4
            refine V_go (2, false) rfl ?_
            refine V_ix (.s _ _ _) Tryd.underlying34 Tryd.sizeOf3 rfl rfl (by omega) (by omega) rfl ?_   -- 13.5
            refine V_go (2, false) rfl ?_
            skip
            refine V_ld (.s _ _ _) Tryd.isAgg3 rfl (by repeat (first | exact List.Mem.head _ | assumption | apply List.Mem.tail)) (I_getN (i := (p + adv cc xs p 1)) (by rw [List.length_set, tabD_length]; omega)) rfl ?_   -- 13.6
            rw [getD_set, if_neg (by omega)]
            refine V_go (2, false) rfl ?_
            refine V_add (.s _ _ _) rfl rfl (wrap_ok (by omega)) rfl ?_   -- 13.7
            refine V_go (2, false) rfl ?_
            refine V_mov (.s _ _ _) rfl rfl ?_   -- 13.8
            refine V_go (2, false) rfl ?_
            refine V_mov (.s _ _ _) rfl rfl ?_   -- 13.9
            refine V_go (2, false) rfl ?_
            refine V_ix (.s _ _ _) Tryd.underlying34 Tryd.sizeOf3 rfl rfl (by omega) (by omega) rfl ?_   -- 13.10
            refine V_go (2, false) rfl ?_
            skip
            refine V_ld (.s _ _ _) Tryd.isAgg3 rfl (by repeat (first | exact List.Mem.head _ | assumption | apply List.Mem.tail)) (I_getN (i := p) (by rw [List.length_set, tabD_length]; omega)) rfl ?_   -- 13.11
            rw [getD_set, if_pos ⟨rfl, by rw [tabD_length]; omega⟩]
            refine V_go (2, false) rfl ?_
            refine V_gtr (.s _ _ _) rfl rfl rfl ?_   -- 13.12
            refine V_pickF (.s _ _ _) rfl rfl rfl ?_   -- 13.13
            refine V_asg (.s _ _ _) rfl rfl ?_   -- 13.14
            refine V_sub [(0, _), (2, _), (3, _), (4, _), (5, _), (6, _), (7, _), (8, _), (9, _), (10, _), (30, _), (31, _), (56, _)] ⟨rfl, rfl, rfl, rfl, rfl, rfl, rfl, rfl, rfl, rfl, rfl, rfl, rfl, trivial⟩ ?_
            refine V_nil (.inr ⟨_, rfl⟩) ?_
            refine E_then ?_
            refine J_cond rfl (fun h4 => ?_) (fun h4 => ?_)   -- C2
            · skip
              refine J_skip ?_
              refine E_blk ?_
              refine E_blk ?_
              refine E_then ?_
              refine J_region ?_
              refine V_add (.n _) rfl rfl (wrap_ok (by omega)) rfl ?_   -- 16.0
              refine V_mov (.n _) rfl rfl ?_   -- 16.1
              refine V_sub [(0, _), (2, _), (3, _), (4, _), (5, _), (6, _), (7, _), (8, _), (9, _), (10, _), (30, _), (31, _), (56, _)] ⟨rfl, rfl, rfl, rfl, rfl, rfl, rfl, rfl, rfl, rfl, rfl, rfl, rfl, trivial⟩ ?_
              refine V_nil (.inl rfl) ?_
              -- again L1 1
              refine E_again (j + 1) ?_ ?_ ?_ (fun w h => by rw [hcs, if_pos (by assumption), if_pos (by assumption)]; exact h)
              · omega
              · omega
              · refine ⟨?_, ?_, ?_, ?_, ?_, ?_, ?_, ?_, trivial⟩ <;> first | rfl | exact int_eq (by omega) | exact int_eq (by dsimp only; omega)
            · skip
              refine J_seq ?_
              refine J_draw (Gs := _) (cl := [.p, .p, .p, .r, .p, .p, .p, .p, .r, .p, .p]) (by kernel_rfl) (fun _ _ h => h) ?_
              refine V_mov (.s _ _ _) rfl rfl ?_   -- 14.0
              refine V_mov (.s _ _ _) rfl rfl ?_   -- 14.1
              refine V_ix (.s _ _ _) Tryd.underlying34 Tryd.sizeOf3 rfl rfl (by omega) (by omega) rfl ?_   -- 14.2
              skip
              refine V_ld (.s _ _ _) Tryd.isAgg3 rfl (by repeat (first | exact List.Mem.head _ | assumption | apply List.Mem.tail)) (I_getN (i := (p + adv cc xs p 1)) (by rw [List.length_set, tabD_length]; omega)) rfl ?_   -- 14.3
              rw [getD_set, if_neg (by omega)]
              refine V_add (.s _ _ _) rfl rfl (wrap_ok (by omega)) rfl ?_   -- 14.4
              refine V_mov (.s _ _ _) rfl rfl ?_   -- 14.5
              refine V_mov (.s _ _ _) rfl rfl ?_   -- 14.6
              refine V_ix (.s _ _ _) Tryd.underlying34 Tryd.sizeOf3 rfl rfl (by omega) (by omega) rfl ?_   -- 14.7
              skip
              refine V_ld (.s _ _ _) Tryd.isAgg3 rfl (by repeat (first | exact List.Mem.head _ | assumption | apply List.Mem.tail)) (I_getN (i := p) (by rw [List.length_set, tabD_length]; omega)) rfl ?_   -- 14.8
              rw [getD_set, if_pos ⟨rfl, by rw [tabD_length]; omega⟩]
              refine V_eql (.s _ _ _) rfl rfl rfl ?_   -- 14.9
              refine V_asg (.s _ _ _) rfl rfl ?_   -- 14.10
              refine V_sub [(0, _), (2, _), (3, _), (4, _), (5, _), (6, _), (7, _), (8, _), (9, _), (10, _), (30, _), (31, _), (56, _), (71, _)] ⟨rfl, rfl, rfl, rfl, rfl, rfl, rfl, rfl, rfl, rfl, rfl, rfl, rfl, rfl, trivial⟩ ?_
              refine V_nil (.inr ⟨_, rfl⟩) ?_
              refine E_then ?_
              refine J_cond rfl (fun h5 => ?_) (fun h5 => ?_)   -- C3
              · skip
                refine J_draw (Gs := _) (cl := [.p, .p, .p, .r, .p, .p, .p, .r, .p, .p, .w]) (by kernel_rfl) (fun _ _ h => h) ?_
                refine V_mov (.s _ _ _) rfl rfl ?_   -- 15.0
                refine V_mov (.s _ _ _) rfl rfl ?_   -- 15.1
                refine V_ix (.s _ _ _) Tryd.underlying34 Tryd.sizeOf3 rfl rfl (by omega) (by omega) rfl ?_   -- 15.2
                skip
                refine V_ld (.s _ _ _) Tryd.isAgg3 rfl (by repeat (first | exact List.Mem.head _ | assumption | apply List.Mem.tail)) (I_getN (i := p) (by rw [List.length_set, cnt_length]; omega)) rfl ?_   -- 15.3
                rw [getD_set, if_pos ⟨rfl, by rw [cnt_length]; omega⟩]
                refine V_mov (.s _ _ _) rfl rfl ?_   -- 15.4
                refine V_mov (.s _ _ _) rfl rfl ?_   -- 15.5
                refine V_ix (.s _ _ _) Tryd.underlying34 Tryd.sizeOf3 rfl rfl (by omega) (by omega) rfl ?_   -- 15.6
                skip
                refine V_ld (.s _ _ _) Tryd.isAgg3 rfl (by repeat (first | exact List.Mem.head _ | assumption | apply List.Mem.tail)) (I_getN (i := (p + adv cc xs p 1)) (by rw [List.length_set, cnt_length]; omega)) rfl ?_   -- 15.7
                rw [getD_set, if_neg (by omega)]
                refine V_addw (.s _ _ _) rfl rfl rfl ?_   -- 15.8
                refine V_ix (.s _ _ _) Tryd.underlying34 Tryd.sizeOf3 rfl rfl (by omega) (by omega) rfl ?_   -- 15.9
                refine V_st (cs' := I ((((cnt xs (posN xs - 1 - (p + 1)))).set p (cBest xs (tabD xs (posN xs - 1 - (p + 1))) (cnt xs (posN xs - 1 - (p + 1))) p (letters.take j)).2).set p (IntKind.i64.wrap ((cBest xs (tabD xs (posN xs - 1 - (p + 1))) (cnt xs (posN xs - 1 - (p + 1))) p (letters.take j)).2 + (cnt xs (posN xs - 1 - (p + 1))).getD (p + adv cc xs p 1) 0)))) (.s _ _ _) Tryd.sizeOf3 rfl rfl rfl (by repeat (first | exact SetAt.z | apply SetAt.s)) (by rw [toN]; exact I_set _ _ _) (by rw [I_length, List.length_set, cnt_length]; omega) ?_   -- 15.10
                rw [List.set_set]
                refine V_sub [(0, _), (2, _), (3, _), (4, _), (5, _), (6, _), (7, _), (8, _), (9, _), (10, _), (30, _), (31, _), (56, _), (71, _)] ⟨rfl, rfl, rfl, rfl, rfl, rfl, rfl, rfl, rfl, rfl, rfl, rfl, rfl, rfl, trivial⟩ ?_
                refine V_nil (.inr ⟨_, rfl⟩) ?_
                refine E_blk ?_
                refine E_blk ?_
                refine E_then ?_
                refine J_region ?_
                refine V_add (.n _) rfl rfl (wrap_ok (by omega)) rfl ?_   -- 16.0
                refine V_mov (.n _) rfl rfl ?_   -- 16.1
                refine V_sub [(0, _), (2, _), (3, _), (4, _), (5, _), (6, _), (7, _), (8, _), (9, _), (10, _), (30, _), (31, _), (56, _), (71, _)] ⟨rfl, rfl, rfl, rfl, rfl, rfl, rfl, rfl, rfl, rfl, rfl, rfl, rfl, rfl, trivial⟩ ?_
                refine V_nil (.inl rfl) ?_
                -- again L1 2
                refine E_again (j + 1) ?_ ?_ ?_ (fun w h => by rw [hcs, if_pos (by assumption), if_neg (by assumption), if_pos (by assumption)]; exact h)
                · omega
                · omega
                · refine ⟨?_, ?_, ?_, ?_, ?_, ?_, ?_, ?_, trivial⟩ <;> first | rfl | exact int_eq (by omega) | exact int_eq (by dsimp only; omega)
              · skip
                refine J_drawG [0, 0, 6, 6, 0, 0, 1, 2, 3, 0, 0, 1, 2, 4, 5, 7, 8] (Gs := _) (cl := [.p, .p, .p, .p, .p, .p, .p, .r, .p, .p, .p, .p, .r, .p, .w, .p, .w]) (by kernel_rfl) (fun _ _ h => h) ?_
                refine V_mov (.s _ _ _) rfl rfl ?_   -- 12.0
                refine V_mov (.s _ _ _) rfl rfl ?_   -- 12.1
                refine V_mov (.s _ _ _) rfl rfl ?_   -- 12.2
                refine V_mov (.s _ _ _) rfl rfl ?_   -- 12.3
                refine V_mov (.s _ _ _) rfl rfl ?_   -- 12.4
                refine V_mov (.s _ _ _) rfl rfl ?_   -- 12.5
                refine V_ix (.s _ _ _) Tryd.underlying34 Tryd.sizeOf3 rfl rfl (by omega) (by omega) rfl ?_   -- 12.6
                skip
                refine V_ld (.s _ _ _) Tryd.isAgg3 rfl (by repeat (first | exact List.Mem.head _ | assumption | apply List.Mem.tail)) (I_getN (i := (p + adv cc xs p 1)) (by rw [List.length_set, tabD_length]; omega)) rfl ?_   -- 12.7
                rw [getD_set, if_neg (by omega)]
                refine V_add (.s _ _ _) rfl rfl (wrap_ok (by omega)) rfl ?_   -- 12.8
                refine V_mov (.s _ _ _) rfl rfl ?_   -- 12.9
                refine V_mov (.s _ _ _) rfl rfl ?_   -- 12.10
                refine V_ix (.s _ _ _) Tryd.underlying34 Tryd.sizeOf3 rfl rfl (by omega) (by omega) rfl ?_   -- 12.11
                skip
                refine V_ld (.s _ _ _) Tryd.isAgg3 rfl (by repeat (first | exact List.Mem.head _ | assumption | apply List.Mem.tail)) (I_getN (i := (p + adv cc xs p 1)) (by rw [List.length_set, cnt_length]; omega)) rfl ?_   -- 12.12
                rw [getD_set, if_neg (by omega)]
                refine V_ix (.s _ _ _) Tryd.underlying34 Tryd.sizeOf3 rfl rfl (by omega) (by omega) rfl ?_   -- 12.13
                refine V_st (cs' := I ((((tabD xs (posN xs - 1 - (p + 1)))).set p (cBest xs (tabD xs (posN xs - 1 - (p + 1))) (cnt xs (posN xs - 1 - (p + 1))) p (letters.take j)).1).set p ((tabD xs (posN xs - 1 - (p + 1))).getD (p + adv cc xs p 1) 0 + 1))) (.s _ _ _) Tryd.sizeOf3 rfl rfl rfl (by repeat (first | exact SetAt.z | apply SetAt.s)) (by rw [toN]; exact I_set _ _ _) (by rw [I_length, List.length_set, tabD_length]; omega) ?_   -- 12.14
                rw [List.set_set]
                refine V_ix (.s _ _ _) Tryd.underlying34 Tryd.sizeOf3 rfl rfl (by omega) (by omega) rfl ?_   -- 12.15
                refine V_st (cs' := I ((((cnt xs (posN xs - 1 - (p + 1)))).set p (cBest xs (tabD xs (posN xs - 1 - (p + 1))) (cnt xs (posN xs - 1 - (p + 1))) p (letters.take j)).2).set p ((cnt xs (posN xs - 1 - (p + 1))).getD (p + adv cc xs p 1) 0))) (.s _ _ _) Tryd.sizeOf3 rfl rfl rfl (by repeat (first | exact SetAt.z | apply SetAt.s)) (by rw [toN]; exact I_set _ _ _) (by rw [I_length, List.length_set, cnt_length]; omega) ?_   -- 12.16
                rw [List.set_set]
                refine V_sub [(0, _), (2, _), (3, _), (4, _), (5, _), (6, _), (7, _), (8, _), (9, _), (10, _), (30, _), (31, _), (56, _), (71, _)] ⟨rfl, rfl, rfl, rfl, rfl, rfl, rfl, rfl, rfl, rfl, rfl, rfl, rfl, rfl, trivial⟩ ?_
                refine V_nil (.inr ⟨_, rfl⟩) ?_
                refine E_blk ?_
                refine E_blk ?_
                refine E_then ?_
                refine J_region ?_
                refine V_add (.n _) rfl rfl (wrap_ok (by omega)) rfl ?_   -- 16.0
                refine V_mov (.n _) rfl rfl ?_   -- 16.1
                refine V_sub [(0, _), (2, _), (3, _), (4, _), (5, _), (6, _), (7, _), (8, _), (9, _), (10, _), (30, _), (31, _), (56, _), (71, _)] ⟨rfl, rfl, rfl, rfl, rfl, rfl, rfl, rfl, rfl, rfl, rfl, rfl, rfl, rfl, trivial⟩ ?_
                refine V_nil (.inl rfl) ?_
                -- again L1 3
                refine E_again (j + 1) ?_ ?_ ?_ (fun w h => by rw [hcs, if_pos (by assumption), if_neg (by assumption), if_neg (by assumption)]; exact h)
                · omega
                · omega
                · refine ⟨?_, ?_, ?_, ?_, ?_, ?_, ?_, ?_, trivial⟩ <;> first | rfl | exact int_eq (by omega) | exact int_eq (by dsimp only; omega)
        · skip
          refine J_exit ?_
          refine E_then_exit ?_
          refine E_lp_exit ?_
          refine E_blk_hit ?_
          refine E_blk ?_
          refine E_then ?_
          refine J_region ?_
          refine V_mov (.n _) rfl rfl ?_   -- 6.0
          refine V_sub1 (.n _) rfl rfl (wrap_ok (by omega)) rfl ?_   -- 6.1
          refine V_asg (.n _) rfl rfl ?_   -- 6.2
          refine V_sub [(0, _), (2, _), (3, _), (4, _), (5, _), (6, _), (7, _), (30, _), (31, _)] ⟨rfl, rfl, rfl, rfl, rfl, rfl, rfl, rfl, rfl, trivial⟩ ?_
          refine V_nil (.inl rfl) ?_
          -- again L0 0
          obtain rfl : j = 8 := by omega
          refine E_again (p) ?_ ?_ ?_ (fun w h => by rw [tabD_step (by omega), cnt_step (by omega), ← cBest_fst xs _ (cnt xs (posN xs - 1 - (p + 1)))]; exact h)
          · omega
          · omega
          · refine ⟨?_, ?_, ?_, ?_, ?_, ?_, ?_, trivial⟩ <;> first | rfl | exact int_eq (by omega) | exact int_eq (by dsimp only; omega)
    · skip
      refine J_exit ?_
      refine E_then_exit ?_
      refine E_lp_exit ?_
      refine E_blk_hit ?_
      refine E_then ?_
      refine J_seq ?_
      refine J_region ?_
      refine V_mov (.n _) rfl rfl ?_   -- 17.0
      refine V_mov (.n _) rfl rfl ?_   -- 17.1
      refine V_asg (.n _) rfl rfl ?_   -- 17.2
      refine V_asg (.n _) rfl rfl ?_   -- 17.3
      refine V_sub [(0, _), (2, _), (3, _), (4, _), (5, _), (6, _), (7, _), (24, _)] ⟨rfl, rfl, rfl, rfl, rfl, rfl, rfl, rfl, trivial⟩ ?_
      refine V_nil (.inl rfl) ?_
      refine E_then ?_
      refine J_ret ?_
      -- return R0
      refine E_ret2 Tryd.results64 rfl rfl (fun w hw => ?_)
      refine ⟨_, _, rfl, hw, b14, b16, rfl, ?_⟩
      rw [show q = 0 by omega]; rfl

end Go.Proofs.YtgeahmmepfmcoaaDoor
