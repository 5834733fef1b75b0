/- parts that the proof of BathTours uses -/
import Derived.Test.YtgeahmmepfmcoaaDoorBMath2
namespace Go.Proofs.YtgeahmmepfmcoaaDoor
open Go Go.RowKit L
set_option linter.unusedVariables false
set_option linter.unusedSimpArgs false

theorem wrap32 (c : UInt8) : IntKind.i32.wrap (c.toNat : Int) = c.toNat := by
  have := c.toNat_lt
  simp [IntKind.wrap, IntKind.bits, IntKind.signed]; omega
theorem enc_letter {j : Nat} (h : j < 8) : Utf8.encode ((letters.getD j 0).toNat : Int) = ⟨[letters.getD j 0].toArray⟩ := by
  have : ∀ j : Fin 8, Utf8.encode ((letters.getD j.1 0).toNat : Int) = ⟨[letters.getD j.1 0].toArray⟩ := by decide
  exact this ⟨j, h⟩
theorem goes_all {xs : List (List UInt8)} {p : Nat} (h : ∀ i, i < 8 → goes xs p (letters.getD i 0) = false) : ¬ ∃ c ∈ letters, goes xs p c = true := by
  rintro ⟨c, hc, hg⟩
  obtain ⟨j, hj, rfl⟩ := List.mem_iff_getElem.1 hc
  have := h j hj
  simp [hj, hg] at this
theorem goes_step {xs : List (List UInt8)} {p j : Nat} (h : ∀ i, i < j → goes xs p (letters.getD i 0) = false) (h1 : ¬ (0 < adv (letters.getD j 0) xs p 1 ∧ (tableOf xs).getD (p + adv (letters.getD j 0) xs p 1) 0 = (tableOf xs).getD p 0 - 1)) : ∀ i, i < j + 1 → goes xs p (letters.getD i 0) = false := by
  intro i hi
  by_cases e : i = j
  · subst e
    rw [goes, Bool.and_eq_false_iff, decide_eq_false_iff_not, decide_eq_false_iff_not]
    exact Classical.not_and_iff_not_or_not.1 h1
  · exact h i (by omega)
theorem path_step {xs : List (List UInt8)} {f p j : Nat} (hf : posN xs ≤ f + p) (hp : p + 1 < posN xs) (hj : j < 8) (h : ∀ i, i < j → goes xs p (letters.getD i 0) = false) (h1 : 0 < adv (letters.getD j 0) xs p 1) (h2 : (tableOf xs).getD (p + adv (letters.getD j 0) xs p 1) 0 = (tableOf xs).getD p 0 - 1) :
    ∃ f', posN xs ≤ f' + (p + adv (letters.getD j 0) xs p 1) ∧ path xs f p = letters.getD j 0 :: path xs f' (p + adv (letters.getD j 0) xs p 1) := by
  obtain ⟨g, rfl⟩ : ∃ g, f = g + 1 := ⟨f - 1, by omega⟩
  refine ⟨g, by omega, ?_⟩
  have hn : nxt xs p = some (letters.getD j 0) := find_here hj h (by rw [goes, decide_eq_true h1, decide_eq_true h2]; rfl)
  rw [path, if_pos hp, hn]
theorem path_end {xs : List (List UInt8)} {f p : Nat} (hp : ¬ p + 1 < posN xs) : path xs f p = [] := by
  cases f with
  | zero => rfl
  | succ f => rw [path, if_neg hp]
theorem same_step {xs ys : List Int} {k : Int} (h0 : 0 ≤ k) (h : ∀ j : Nat, (j : Int) < k → xs.getD j 0 = ys.getD j 0) (hk : ¬ gI xs k ≠ gI ys k) : ∀ j : Nat, (j : Int) < k + 1 → xs.getD j 0 = ys.getD j 0 := by
  intro j hj
  by_cases e : (j : Int) < k
  · exact h j e
  · have : j = k.toNat := by omega
    subst this
    exact Classical.not_not.1 hk
theorem same_all {xs ys : List Int} {k : Int} (hl : xs.length = ys.length) (hk : (xs.length : Int) ≤ k) (h : ∀ j : Nat, (j : Int) < k → xs.getD j 0 = ys.getD j 0) : xs = ys := by
  refine List.ext_getElem hl fun j h1 h2 => ?_
  have := h j (by omega)
  simpa [h1, h2] using this

theorem equal_spec (w : World) (A A2 : Option Addr) (c c2 : Nat) (xs ys : List Int) (hl : xs.length ≤ 140737488351232) (hl2 : ys.length ≤ 140737488351232) (hr : Rd w A (I xs)) (hr2 : Rd w A2 (I ys)) :
    Calls Tryd.prog 25 #[.slice A xs.length c, .slice A2 ys.length c2] w fun e w' => e = .returned (.bool (decide (xs = ys))) ∧ St w [] w' := by
  refine calls (args := [.slice A xs.length c, .slice A2 ys.length c2]) Tryd.func25 rfl Tryd.ntmps25 (Nat.le_of_ble_eq_true rfl) (St.refl w) ?_
  refine J_seq ?_
  refine J_region ?_
  refine V_asg (.n _) rfl rfl ?_   -- 0.0
  refine V_sub [(0, _), (1, _), (4, _)] ⟨rfl, rfl, rfl, trivial⟩ ?_
  refine V_nil (.inl rfl) ?_
  refine E_then ?_
  refine J_seq ?_
  refine J_seq ?_
  refine J_region ?_
  refine V_mov (.n _) rfl rfl ?_   -- 1.0
  refine V_len (.n _) Tryd.underlying34 rfl rfl ?_   -- 1.1
  refine V_mov (.n _) rfl rfl ?_   -- 1.2
  refine V_len (.n _) Tryd.underlying34 rfl rfl ?_   -- 1.3
  refine V_neq (.n _) rfl rfl rfl ?_   -- 1.4
  refine V_sub [(0, _), (1, _), (4, _), (10, _)] ⟨rfl, rfl, rfl, rfl, trivial⟩ ?_
  refine V_nil (.inl rfl) ?_
  refine E_then ?_
  refine J_cond rfl (fun h1 => ?_) (fun h1 => ?_)   -- C0
  · skip
    refine J_seq ?_
    refine J_region ?_
    refine V_asg (.n _) rfl rfl ?_   -- 2.0
    refine V_sub [(0, _), (1, _), (4, _), (10, _)] ⟨rfl, rfl, rfl, rfl, trivial⟩ ?_
    refine V_nil (.inl rfl) ?_
    refine E_then ?_
    refine J_ret ?_
    refine E_then_ret ?_
    -- return R0
    refine E_ret1 Tryd.results25 rfl (fun w hw => ?_)
    exact ⟨by rw [decide_eq_false (fun e => by subst e; omega)], hw⟩
  · skip
    refine J_skip ?_
    refine E_then ?_
    refine J_seq ?_
    refine J_seq ?_
    refine J_region ?_
    refine V_mov (.n _) rfl rfl ?_   -- 3.0
    refine V_len (.n _) Tryd.underlying34 rfl rfl ?_   -- 3.1
    refine V_mov (.n _) rfl rfl ?_   -- 3.2
    refine V_sub [(0, _), (1, _), (4, _), (10, _), (12, _), (13, _)] ⟨rfl, rfl, rfl, rfl, rfl, rfl, trivial⟩ ?_
    refine V_nil (.inl rfl) ?_
    refine E_then ?_
    refine J_block ?_
    -- loop L0
    refine J_loop (X := Int) (fun k => [(0, (.slice A xs.length c)), (1, (.slice A2 ys.length c2)), (12, (.int .i64 ((xs.length : Nat) : Int))), (13, .int .i64 k)]) (fun k => []) (fun k => 0 ≤ k ∧ k ≤ xs.length ∧ ∀ j : Nat, (j : Int) < k → xs.getD j 0 = ys.getD j 0) (fun k => (xs.length - k).toNat) (0) (by refine ⟨?_, ?_, ?_, ?_, trivial⟩ <;> first | rfl | exact int_eq (by omega)) (fun w h => h) ?_ ?_
    · exact ⟨by omega, by omega, fun j hj => by omega⟩
    · rintro k ⟨hk0, hk1, hk2⟩
      refine J_seq ?_
      refine J_region ?_
      refine V_lss (.n _) rfl rfl rfl ?_   -- 4.0
      refine V_sub [(0, _), (1, _), (12, _), (13, _), (14, _)] ⟨rfl, rfl, rfl, rfl, rfl, trivial⟩ ?_
      refine V_nil (.inl rfl) ?_
      refine E_then ?_
      refine J_seq ?_
      refine J_cond rfl (fun h2 => ?_) (fun h2 => ?_)   -- C1
      · skip
        refine J_skip ?_
        refine E_then ?_
        refine J_seq ?_
        refine J_block ?_
        refine J_seq ?_
        refine J_region ?_
        refine V_mov (.n _) rfl rfl ?_   -- 5.0
        refine V_asg (.n _) rfl rfl ?_   -- 5.1
        refine V_sub [(0, _), (1, _), (5, _), (12, _), (13, _), (14, _)] ⟨rfl, rfl, rfl, rfl, rfl, rfl, trivial⟩ ?_
        refine V_nil (.inl rfl) ?_
        refine E_then ?_
        refine J_seq ?_
        refine J_draw (Gs := _) (cl := [.p, .p, .p, .r, .p, .p, .p, .r, .p]) (by kernel_rfl) (fun _ _ h => h) ?_
        refine V_mov (.s _ _ _) rfl rfl ?_   -- 6.0
        refine V_mov (.s _ _ _) rfl rfl ?_   -- 6.1
        refine V_ixz (.s _ _ _) Tryd.underlying34 Tryd.sizeOf3 rfl rfl (hr.pl (by simp)) (by omega) (by omega) rfl ?_   -- 6.2
        refine V_ldz (.s _ _ _) Tryd.isAgg3 rfl hr (I_get0 (by omega) (by omega)) rfl ?_   -- 6.3
        refine V_mov (.s _ _ _) rfl rfl ?_   -- 6.4
        refine V_mov (.s _ _ _) rfl rfl ?_   -- 6.5
        refine V_ixz (.s _ _ _) Tryd.underlying34 Tryd.sizeOf3 rfl rfl (hr2.pl (by simp)) (by omega) (by omega) rfl ?_   -- 6.6
        refine V_ldz (.s _ _ _) Tryd.isAgg3 rfl hr2 (I_get0 (by omega) (by omega)) rfl ?_   -- 6.7
        refine V_neq (.s _ _ _) rfl rfl rfl ?_   -- 6.8
        refine V_sub [(0, _), (1, _), (5, _), (12, _), (13, _), (14, _), (24, _)] ⟨rfl, rfl, rfl, rfl, rfl, rfl, rfl, trivial⟩ ?_
        refine V_nil (.inr ⟨_, rfl⟩) ?_
        refine E_then ?_
        refine J_cond rfl (fun h3 => ?_) (fun h3 => ?_)   -- C2
        · skip
          refine J_seq ?_
          refine J_region ?_
          refine V_asg (.n _) rfl rfl ?_   -- 7.0
          refine V_sub [(0, _), (1, _), (4, _), (5, _), (12, _), (13, _), (14, _), (24, _)] ⟨rfl, rfl, rfl, rfl, rfl, rfl, rfl, rfl, trivial⟩ ?_
          refine V_nil (.inl rfl) ?_
          refine E_then ?_
          refine J_ret ?_
          refine E_blk_ret ?_
          refine E_then_ret ?_
          refine E_lp_ret ?_
          refine E_blk_ret ?_
          refine E_then_ret ?_
          -- return R1
          refine E_ret1 Tryd.results25 rfl (fun w hw => ?_)
          exact ⟨by rw [decide_eq_false (fun e => (show gI xs k ≠ gI ys k by assumption) (by rw [e]))], hw⟩
        · skip
          refine J_skip ?_
          refine E_blk ?_
          refine E_then ?_
          refine J_region ?_
          refine V_add (.n _) rfl rfl (wrap_ok (by omega)) rfl ?_   -- 8.0
          refine V_mov (.n _) rfl rfl ?_   -- 8.1
          refine V_sub [(0, _), (1, _), (5, _), (12, _), (13, _), (14, _), (24, _)] ⟨rfl, rfl, rfl, rfl, rfl, rfl, rfl, trivial⟩ ?_
          refine V_nil (.inl rfl) ?_
          -- again L0 0
          refine E_again (k + 1) ?_ ?_ ?_ (fun w h => h)
          · omega
          · exact ⟨by omega, by omega, same_step hk0 hk2 (by assumption)⟩
          · refine ⟨?_, ?_, ?_, ?_, trivial⟩ <;> first | rfl | exact int_eq (by omega) | exact int_eq (by dsimp only; omega)
      · skip
        refine J_exit ?_
        refine E_then_exit ?_
        refine E_lp_exit ?_
        refine E_blk_hit ?_
        refine E_then ?_
        refine J_seq ?_
        refine J_region ?_
        refine V_asg (.n _) rfl rfl ?_   -- 9.0
        refine V_sub [(0, _), (1, _), (4, _), (12, _), (13, _), (14, _)] ⟨rfl, rfl, rfl, rfl, rfl, rfl, trivial⟩ ?_
        refine V_nil (.inl rfl) ?_
        refine E_then ?_
        refine J_ret ?_
        -- return R2
        refine E_ret1 Tryd.results25 rfl (fun w hw => ?_)
        exact ⟨by rw [decide_eq_true (same_all (by omega) (by omega) hk2)], hw⟩

theorem Shortest_yes (w : World) (A : Option Addr) (c : Nat) (xs : List (List UInt8)) (hl : xs.length ≤ 140737488351232) (hr : Rd w A (Ss xs)) (hv : validW xs = true) :
    Calls Tryd.prog 16 #[.slice A xs.length c] w fun e w' => e = .returned (.tuple #[.string ⟨(shortS xs).toArray⟩, .int .i64 0]) ∧ St w [] w' := by
  obtain ⟨hv1, hv2, hv3⟩ := validW_len hv
  have hN := posN_le hv
  have hN0 := posN_pos xs
  refine calls (args := [.slice A xs.length c]) Tryd.func16 rfl Tryd.ntmps16 (Nat.le_of_ble_eq_true rfl) (St.refl w) ?_
  refine J_seq ?_
  refine J_region ?_
  refine V_asg (.n _) rfl rfl ?_   -- 0.0
  refine V_asg (.n _) rfl rfl ?_   -- 0.1
  refine V_sub [(0, _), (2, _), (3, _)] ⟨rfl, rfl, rfl, trivial⟩ ?_
  refine V_nil (.inl rfl) ?_
  refine E_then ?_
  refine J_seq ?_
  refine J_seq ?_
  refine J_region ?_
  refine V_mov (.n _) rfl rfl ?_   -- 1.0
  refine V_call0 (.n _) Tryd.call50 (.cons rfl .nil) (fun w1 hw1 => valid_spec w1 A c xs hl (hr.keep hw1)) rfl trivial ?_   -- 1.1
  refine V_notB (.n _) rfl rfl ?_   -- 1.2
  refine V_sub [(0, _), (2, _), (3, _), (13, _)] ⟨rfl, rfl, rfl, rfl, trivial⟩ ?_
  refine V_nil (.inl rfl) ?_
  refine E_then ?_
  refine J_condB rfl (fun h1 => ?_) (fun h1 => ?_)   -- C0
  · simp [hv] at h1
  · skip
    refine J_skip ?_
    refine E_then ?_
    refine J_seq ?_
    refine J_region ?_
    refine V_mov (.n _) rfl rfl ?_   -- 3.0
    refine V_call (post := fun v D => ∃ b, v = .slice (some ⟨b, 0, none⟩) (posN xs) (posN xs) ∧ D = [.c b 3 (I (tableOf xs))]) (.n _) Tryd.call51 (.cons rfl .nil) (fun w1 hw1 => table_spec w1 A c xs hv (hr.keep hw1)) rfl trivial ?_
    rintro v D ⟨b15, rfl, rfl⟩
    refine V_asg (.n _) rfl rfl ?_   -- 3.2
    refine V_sub [(0, _), (2, _), (3, _), (4, _), (13, _)] ⟨rfl, rfl, rfl, rfl, rfl, trivial⟩ ?_
    refine V_nil (.inl rfl) ?_
    refine E_then ?_
    refine J_seq ?_
    refine J_region ?_
    refine V_asg (.n _) rfl rfl ?_   -- 4.0
    refine V_sub [(0, _), (2, _), (3, _), (4, _), (5, _), (13, _)] ⟨rfl, rfl, rfl, rfl, rfl, rfl, trivial⟩ ?_
    refine V_nil (.inl rfl) ?_
    refine E_then ?_
    refine J_seq ?_
    refine J_seq ?_
    refine J_region ?_
    refine V_asg (.n _) rfl rfl ?_   -- 5.0
    refine V_sub [(0, _), (2, _), (3, _), (4, _), (5, _), (6, _), (13, _)] ⟨rfl, rfl, rfl, rfl, rfl, rfl, rfl, trivial⟩ ?_
    refine V_nil (.inl rfl) ?_
    refine E_then ?_
    refine J_block ?_
    -- loop L0
    refine J_loop (X := Nat × List UInt8) (fun x => [(0, (.slice A xs.length c)), (2, (.string ⟨#[]⟩)), (3, (.int .i64 (0))), (4, (.slice (some ⟨b15, 0, none⟩) (posN xs) (posN xs))), (5, .string ⟨x.2.toArray⟩), (6, .int .i64 (x.1 : Nat))]) (fun x => [.c b15 3 (I (tableOf xs))]) (fun x => x.1 < posN xs ∧ x.2.length ≤ x.1 ∧ ∃ f, posN xs ≤ f + x.1 ∧ x.2 ++ path xs f x.1 = shortS xs) (fun x => posN xs - x.1) (0, []) (by refine ⟨?_, ?_, ?_, ?_, ?_, ?_, trivial⟩ <;> first | rfl | exact int_eq (by omega)) (fun w h => h) ?_ ?_
    · exact ⟨hN0, Nat.le_refl _, posN xs, by omega, rfl⟩
    · rintro ⟨p, acc⟩ ⟨hp, ha, f, hf, hpath⟩
      dsimp only at hp ha hf hpath ⊢
      refine J_seq ?_
      refine J_seq ?_
      refine J_region ?_
      refine V_mov (.n _) rfl rfl ?_   -- 6.0
      refine V_mov (.n _) rfl rfl ?_   -- 6.1
      refine V_len (.n _) Tryd.underlying34 rfl rfl ?_   -- 6.2
      refine V_sub1 (.n _) rfl rfl (wrap_ok (by omega)) rfl ?_   -- 6.3
      refine V_lss (.n _) rfl rfl rfl ?_   -- 6.4
      refine V_sub [(0, _), (2, _), (3, _), (4, _), (5, _), (6, _), (20, _)] ⟨rfl, rfl, rfl, rfl, rfl, rfl, rfl, trivial⟩ ?_
      refine V_nil (.inl rfl) ?_
      refine E_then ?_
      refine J_cond rfl (fun h2 => ?_) (fun h2 => ?_)   -- C1
      · skip
        refine J_skip ?_
        refine E_then ?_
        refine J_block ?_
        refine J_seq ?_
        refine J_region ?_
        refine V_lit (.n _) Tryd.underlying76 Tryd.sizeOf5 Tryd.zeroValue5 (.cons rfl rfl rfl (.cons rfl rfl rfl (.cons rfl rfl rfl (.cons rfl rfl rfl (.cons rfl rfl rfl (.cons rfl rfl rfl (.cons rfl rfl rfl (.cons rfl rfl rfl .nil)))))))) rfl rfl rfl (fun _ => trivial) (fun b21 => ?_)   -- 7.0
        refine V_mark (.n _) Tryd.underlying76 Tryd.underlying5 rfl (by repeat (first | exact SetAt.z | apply SetAt.s)) rfl ?_   -- 7.1
        refine V_len (.n _) Tryd.underlying76 rfl rfl ?_   -- 7.2
        refine V_mov (.n _) rfl rfl ?_   -- 7.3
        refine V_sub [(0, _), (2, _), (3, _), (4, _), (5, _), (6, _), (20, _), (22, _), (23, _), (24, _)] ⟨rfl, rfl, rfl, rfl, rfl, rfl, rfl, rfl, rfl, rfl, trivial⟩ ?_
        refine V_nil (.inl rfl) ?_
        refine E_then ?_
        refine J_block ?_
        -- loop L1
        refine J_loop (X := Nat) (fun j => [(0, (.slice A xs.length c)), (2, (.string ⟨#[]⟩)), (3, (.int .i64 (0))), (4, (.slice (some ⟨b15, 0, none⟩) (posN xs) (posN xs))), (5, .string ⟨acc.toArray⟩), (6, .int .i64 (p : Nat)), (22, (.slice (some ⟨b21, 0, none⟩) 8 8)), (23, .int .i64 8), (24, .int .i64 (j : Nat))]) (fun j => [.f b21 5 (By letters) (8, 9), .c b15 3 (I (tableOf xs))]) (fun j => j ≤ 8 ∧ ∀ i, i < j → goes xs p (letters.getD i 0) = false) (fun j => 8 - j) (0) (by refine ⟨?_, ?_, ?_, ?_, ?_, ?_, ?_, ?_, ?_, trivial⟩ <;> first | rfl | exact int_eq (by omega)) (fun w h => h) ?_ ?_
        · exact ⟨by omega, fun i hi => by omega⟩
        · rintro j ⟨hj, hj2⟩
          refine J_seq ?_
          refine J_region ?_
          refine V_lss (.n _) rfl rfl rfl ?_   -- 8.0
          refine V_sub [(0, _), (2, _), (3, _), (4, _), (5, _), (6, _), (22, _), (23, _), (24, _), (25, _)] ⟨rfl, rfl, rfl, rfl, rfl, rfl, rfl, rfl, rfl, rfl, trivial⟩ ?_
          refine V_nil (.inl rfl) ?_
          refine E_then ?_
          refine J_seq ?_
          refine J_cond rfl (fun h3 => ?_) (fun h3 => ?_)   -- C2
          · skip
            refine J_skip ?_
            refine E_then ?_
            refine J_seq ?_
            refine J_block ?_
            refine J_seq ?_
            refine J_region ?_
            refine V_ix (.n _) Tryd.underlying76 Tryd.sizeOf5 rfl rfl (by omega) (by omega) rfl ?_   -- 9.0
            refine V_ldf (.n _) Tryd.isAgg5 rfl (by repeat (first | exact List.Mem.head _ | assumption | apply List.Mem.tail)) (By_getN (xs := letters) (by show j < 8; omega)) rfl ?_   -- 9.1
            refine V_asg (.n _) rfl rfl ?_   -- 9.2
            refine V_sub [(0, _), (2, _), (3, _), (4, _), (5, _), (6, _), (8, _), (22, _), (23, _), (24, _), (25, _)] ⟨rfl, rfl, rfl, rfl, rfl, rfl, rfl, rfl, rfl, rfl, rfl, trivial⟩ ?_
            refine V_nil (.inl rfl) ?_
            refine E_then ?_
            refine J_seq ?_
            refine J_region ?_
            refine V_mov (.n _) rfl rfl ?_   -- 10.0
            refine V_mov (.n _) rfl rfl ?_   -- 10.1
            refine V_mov (.n _) rfl rfl ?_   -- 10.2
            refine V_call0 (.n _) Tryd.call52 (.cons rfl (.cons rfl (.cons rfl .nil))) (fun w1 hw1 => after_spec w1 A c xs p (letters.getD j 0) hv (by omega) (hr.keep hw1)) rfl trivial ?_   -- 10.3
            have hal := adv_lt (show p < posN xs by omega) (letters.getD j 0)
            have hen := enc_letter (show j < 8 by omega)
            have hb1 := tab_bd xs (p + adv (letters.getD j 0) xs p 1)
            have hb2 := tab_bd xs p
            have hfar : far = 1099511627776 := rfl
            generalize hcc : letters.getD j 0 = cc at *
            refine V_mov (.n _) rfl rfl ?_   -- 10.4
            refine V_ext (.n _) rfl rfl rfl ?_   -- 10.5
            refine V_ext (.n _) rfl rfl rfl ?_   -- 10.6
            refine V_asg (.n _) rfl rfl ?_   -- 10.7
            refine V_asg (.n _) rfl rfl ?_   -- 10.8
            refine V_sub [(0, _), (2, _), (3, _), (4, _), (5, _), (6, _), (8, _), (9, _), (10, _), (22, _), (23, _), (24, _), (25, _)] ⟨rfl, rfl, rfl, rfl, rfl, rfl, rfl, rfl, rfl, rfl, rfl, rfl, rfl, trivial⟩ ?_
            refine V_nil (.inl rfl) ?_
            refine E_then ?_
            refine J_seq ?_
            refine J_draw (Gs := _) (cl := [.p, .p, .p, .p, .p, .r, .p, .p, .p, .r, .p, .p, .p]) (by kernel_rfl) (fun _ _ h => h) ?_
            refine V_mov (.s _ _ _) rfl rfl ?_   -- 11.0
            refine V_mov (.s _ _ _) rfl rfl ?_   -- 11.1
            refine V_split 36 rfl (fun h4 => ?_) (fun h4 => ?_)   -- guard 11.1
            · skip
              refine V_go (1, true) rfl ?_
              refine V_mov (.s _ _ _) rfl rfl ?_   -- 11.2
              refine V_go (1, true) rfl ?_
              refine V_mov (.s _ _ _) rfl rfl ?_   -- 11.3
              refine V_go (1, true) rfl ?_
              refine V_ix (.s _ _ _) Tryd.underlying34 Tryd.sizeOf3 rfl rfl (by omega) (by omega) rfl ?_   -- 11.4
              refine V_go (1, true) rfl ?_
              refine V_ld (.s _ _ _) Tryd.isAgg3 rfl (by repeat (first | exact List.Mem.head _ | assumption | apply List.Mem.tail)) (I_getN (xs := tableOf xs) (i := p + adv cc xs p 1) (by rw [tableOf, tabD_length]; omega)) rfl ?_   -- 11.5
              refine V_go (1, true) rfl ?_
              refine V_mov (.s _ _ _) rfl rfl ?_   -- 11.6
              refine V_go (1, true) rfl ?_
              refine V_mov (.s _ _ _) rfl rfl ?_   -- 11.7
              refine V_go (1, true) rfl ?_
              refine V_ix (.s _ _ _) Tryd.underlying34 Tryd.sizeOf3 rfl rfl (by omega) (by omega) rfl ?_   -- 11.8
              refine V_go (1, true) rfl ?_
              refine V_ld (.s _ _ _) Tryd.isAgg3 rfl (by repeat (first | exact List.Mem.head _ | assumption | apply List.Mem.tail)) (I_getN (xs := tableOf xs) (i := p) (by rw [tableOf, tabD_length]; omega)) rfl ?_   -- 11.9
              refine V_go (1, true) rfl ?_
              refine V_sub1 (.s _ _ _) rfl rfl (wrap_ok (by omega)) rfl ?_   -- 11.10
              refine V_go (1, true) rfl ?_
              refine V_eql (.s _ _ _) rfl rfl rfl ?_   -- 11.11
              refine V_pickT (.s _ _ _) rfl rfl rfl ?_   -- 11.12
              refine V_sub [(0, _), (2, _), (3, _), (4, _), (5, _), (6, _), (8, _), (9, _), (10, _), (22, _), (23, _), (24, _), (25, _), (47, _)] ⟨rfl, rfl, rfl, rfl, rfl, rfl, rfl, rfl, rfl, rfl, rfl, rfl, rfl, rfl, trivial⟩ ?_
              refine V_nil (.inr ⟨_, rfl⟩) ?_
              refine E_then ?_
              refine J_cond rfl (fun h5 => ?_) (fun h5 => ?_)   -- C3
              · skip
                refine J_seq ?_
                refine J_region ?_
                refine V_mov (.n _) rfl rfl ?_   -- 12.0
                refine V_mov (.n _) rfl rfl ?_   -- 12.1
                refine V_cvi (.n _) Tryd.underlying5 Tryd.underlying21 rfl (wrap32 cc) rfl ?_   -- 12.2
                refine V_cvr (.n _) Tryd.underlying21 Tryd.underlying9 rfl hen rfl ?_   -- 12.3
                refine V_cat (.n _) rfl rfl (by simp; omega) rfl ?_   -- 12.4
                refine V_asg (.n _) rfl rfl ?_   -- 12.5
                refine V_sub [(0, _), (2, _), (3, _), (4, _), (5, _), (6, _), (8, _), (9, _), (10, _), (22, _), (23, _), (24, _), (25, _), (47, _)] ⟨rfl, rfl, rfl, rfl, rfl, rfl, rfl, rfl, rfl, rfl, rfl, rfl, rfl, rfl, trivial⟩ ?_
                refine V_nil (.inl rfl) ?_
                refine E_then ?_
                refine J_seq ?_
                refine J_region ?_
                refine V_mov (.n _) rfl rfl ?_   -- 13.0
                refine V_asg (.n _) rfl rfl ?_   -- 13.1
                refine V_sub [(0, _), (2, _), (3, _), (4, _), (5, _), (6, _), (8, _), (9, _), (10, _), (22, _), (23, _), (24, _), (25, _), (47, _)] ⟨rfl, rfl, rfl, rfl, rfl, rfl, rfl, rfl, rfl, rfl, rfl, rfl, rfl, rfl, trivial⟩ ?_
                refine V_nil (.inl rfl) ?_
                refine E_then ?_
                refine J_exit ?_
                refine E_blk_exit rfl ?_
                refine E_then_exit ?_
                refine E_lp_exit ?_
                refine E_blk_hit ?_
                refine E_blk ?_
                -- again L0 0
                subst hcc
                refine E_again (X := Nat × List UInt8) (KI := fun x => [(0, (.slice A xs.length c)), (2, (.string ⟨#[]⟩)), (3, (.int .i64 (0))), (4, (.slice (some ⟨b15, 0, none⟩) (posN xs) (posN xs))), (5, .string ⟨x.2.toArray⟩), (6, .int .i64 (x.1 : Nat))]) (GI := fun x => [.c b15 3 (I (tableOf xs))]) (I := fun x => x.1 < posN xs ∧ x.2.length ≤ x.1 ∧ ∃ f, posN xs ≤ f + x.1 ∧ x.2 ++ path xs f x.1 = shortS xs) (μ := fun x => posN xs - x.1) (x := (p, acc)) ((p + adv (letters.getD j 0) xs p 1, acc ++ [letters.getD j 0])) ?_ ?_ ?_ (fun w h => h.sublist (by simp))
                · show posN xs - (p + adv (letters.getD j 0) xs p 1) < posN xs - p; omega
                · dsimp only
                  obtain ⟨f', hf', he⟩ := path_step hf (by omega) (by omega) hj2 (by assumption) (by assumption)
                  exact ⟨hal, by rw [List.length_append, List.length_singleton]; omega, f', hf', by rw [List.append_assoc, List.singleton_append, ← he]; exact hpath⟩
                · refine ⟨?_, ?_, ?_, ?_, ?_, ?_, trivial⟩ <;> first | rfl | exact int_eq (by omega) | exact int_eq (by dsimp only; omega)
              · skip
                refine J_skip ?_
                refine E_blk ?_
                refine E_then ?_
                refine J_region ?_
                refine V_add (.n _) rfl rfl (wrap_ok (by omega)) rfl ?_   -- 14.0
                refine V_mov (.n _) rfl rfl ?_   -- 14.1
                refine V_sub [(0, _), (2, _), (3, _), (4, _), (5, _), (6, _), (8, _), (9, _), (10, _), (22, _), (23, _), (24, _), (25, _), (47, _)] ⟨rfl, rfl, rfl, rfl, rfl, rfl, rfl, rfl, rfl, rfl, rfl, rfl, rfl, rfl, trivial⟩ ?_
                refine V_nil (.inl rfl) ?_
                -- again L1 0
                subst hcc
                refine E_again (j + 1) ?_ ?_ ?_ (fun w h => h)
                · omega
                · exact ⟨by omega, goes_step hj2 (fun hh => by first | exact absurd hh.1 (by assumption) | exact absurd hh.2 (by assumption))⟩
                · refine ⟨?_, ?_, ?_, ?_, ?_, ?_, ?_, ?_, ?_, trivial⟩ <;> first | rfl | exact int_eq (by omega) | exact int_eq (by dsimp only; omega)
            · skip
              refine V_pass (.s _ _ _) (1, true) rfl rfl ?_   -- 11.2
              refine V_pass (.s _ _ _) (1, true) rfl rfl ?_   -- 11.3
              refine V_pass (.s _ _ _) (1, true) rfl rfl ?_   -- 11.4
              refine V_pass (.s _ _ _) (1, true) rfl rfl ?_   -- 11.5
              refine V_pass (.s _ _ _) (1, true) rfl rfl ?_   -- 11.6
              refine V_pass (.s _ _ _) (1, true) rfl rfl ?_   -- 11.7
              refine V_pass (.s _ _ _) (1, true) rfl rfl ?_   -- 11.8
              refine V_pass (.s _ _ _) (1, true) rfl rfl ?_   -- 11.9
              refine V_pass (.s _ _ _) (1, true) rfl rfl ?_   -- 11.10
              refine V_pass (.s _ _ _) (1, true) rfl rfl ?_   -- 11.11
              refine V_pickF (.s _ _ _) rfl rfl rfl ?_   -- 11.12
              refine V_sub [(0, _), (2, _), (3, _), (4, _), (5, _), (6, _), (8, _), (9, _), (10, _), (22, _), (23, _), (24, _), (25, _), (47, _)] ⟨rfl, rfl, rfl, rfl, rfl, rfl, rfl, rfl, rfl, rfl, rfl, rfl, rfl, rfl, trivial⟩ ?_
              refine V_nil (.inr ⟨_, rfl⟩) ?_
              refine E_then ?_
              refine J_condF rfl ?_
              refine J_skip ?_
              refine E_blk ?_
              refine E_then ?_
              refine J_region ?_
              refine V_add (.n _) rfl rfl (wrap_ok (by omega)) rfl ?_   -- 14.0
              refine V_mov (.n _) rfl rfl ?_   -- 14.1
              refine V_sub [(0, _), (2, _), (3, _), (4, _), (5, _), (6, _), (8, _), (9, _), (10, _), (22, _), (23, _), (24, _), (25, _), (47, _)] ⟨rfl, rfl, rfl, rfl, rfl, rfl, rfl, rfl, rfl, rfl, rfl, rfl, rfl, rfl, trivial⟩ ?_
              refine V_nil (.inl rfl) ?_
              -- again L1 1
              subst hcc
              refine E_again (j + 1) ?_ ?_ ?_ (fun w h => h)
              · omega
              · exact ⟨by omega, goes_step hj2 (fun hh => by first | exact absurd hh.1 (by assumption) | exact absurd hh.2 (by assumption))⟩
              · refine ⟨?_, ?_, ?_, ?_, ?_, ?_, ?_, ?_, ?_, trivial⟩ <;> first | rfl | exact int_eq (by omega) | exact int_eq (by dsimp only; omega)
          · exact absurd (goes_ex hv (show p + 1 < posN xs by omega)) (goes_all (fun i hi => hj2 i (by omega)))
      · skip
        refine J_exit ?_
        refine E_then_exit ?_
        refine E_lp_exit ?_
        refine E_blk_hit ?_
        refine E_then ?_
        refine J_seq ?_
        refine J_region ?_
        refine V_mov (.n _) rfl rfl ?_   -- 15.0
        refine V_asg (.n _) rfl rfl ?_   -- 15.1
        refine V_asg (.n _) rfl rfl ?_   -- 15.2
        refine V_sub [(0, _), (2, _), (3, _), (4, _), (5, _), (6, _), (20, _)] ⟨rfl, rfl, rfl, rfl, rfl, rfl, rfl, trivial⟩ ?_
        refine V_nil (.inl rfl) ?_
        refine E_then ?_
        refine J_ret ?_
        -- return R0
        refine E_ret2 Tryd.results16 rfl rfl (fun w hw => ?_)
        obtain rfl : acc = shortS xs := by rw [← hpath, path_end (by omega), List.append_nil]
        exact ⟨rfl, hw.sublist (by simp)⟩

theorem awake_spec (w : World) : Calls Tryd.prog 17 #[] w fun e w' => e = .returned (.bool true) ∧ St w [] w' := by
  refine calls (args := []) Tryd.func17 rfl Tryd.ntmps17 (Nat.le_of_ble_eq_true rfl) (St.refl w) ?_
  refine J_seq ?_
  refine J_region ?_
  refine V_asg (.n _) rfl rfl ?_   -- 0.0
  refine V_sub [(0, _)] ⟨rfl, trivial⟩ ?_
  refine V_nil (.inl rfl) ?_
  refine E_then ?_
  refine J_seq ?_
  refine J_region ?_
  refine V_lit (.n _) Tryd.underlying22 Tryd.sizeOf9 Tryd.zeroValue9 (.cons rfl rfl rfl (.cons rfl rfl rfl .nil)) rfl rfl rfl (fun _ => trivial) (fun b4 => ?_)   -- 1.0
  refine V_call0 (.n _) Tryd.call16 (.cons rfl .nil) (fun w1 hw1 => Shortest_yes w1 (some ⟨b4, 0, none⟩) 2 [[97, 98, 99], [97, 99, 98]] (by decide) (Rd.own hw1 (List.Mem.head _)) (by decide)) rfl trivial ?_   -- 1.1
  refine V_mov (.n _) rfl rfl ?_   -- 1.2
  refine V_ext (.n _) rfl rfl rfl ?_   -- 1.3
  refine V_ext (.n _) rfl rfl rfl ?_   -- 1.4
  refine V_asg (.n _) rfl rfl ?_   -- 1.5
  refine V_asg (.n _) rfl rfl ?_   -- 1.6
  refine V_sub [(0, _), (1, _), (2, _)] ⟨rfl, rfl, rfl, trivial⟩ ?_
  refine V_nil (.inl rfl) ?_
  refine E_then ?_
  refine J_seq ?_
  refine J_region ?_
  refine V_mov (.n _) rfl rfl ?_   -- 2.0
  rw [show shortS [[97, 98, 99], [97, 99, 98]] = [97, 98, 99, 98] by kernel_rfl]
  refine V_seql (.n _) rfl rfl rfl ?_   -- 2.1
  refine V_mov (.n _) rfl rfl ?_   -- 2.2
  refine V_go (2, true) rfl ?_
  refine V_mov (.n _) rfl rfl ?_   -- 2.3
  refine V_go (2, true) rfl ?_
  refine V_eql (.n _) rfl rfl rfl ?_   -- 2.4
  refine V_pickT (.n _) rfl rfl rfl ?_   -- 2.5
  refine V_asg (.n _) rfl rfl ?_   -- 2.6
  refine V_sub [(0, _), (1, _), (2, _)] ⟨rfl, rfl, rfl, trivial⟩ ?_
  refine V_nil (.inl rfl) ?_
  refine E_then ?_
  refine J_ret ?_
  -- return R0
  refine E_ret1 Tryd.results17 rfl (fun w hw => ?_)
  exact ⟨rfl, hw.sublist (by simp)⟩

end Go.Proofs.YtgeahmmepfmcoaaDoor
