/- parts that the proof of BathTours uses -/
import Derived.Test.YtgeahmmepfmcoaaDoorRTree
namespace Go.Proofs.YtgeahmmepfmcoaaDoor
open Go Go.RowKit L
set_option linter.unusedVariables false
set_option linter.unusedSimpArgs false

def mn (pi : List Int) : Nat → Int
  | 0 => pi.getD 0 0
  | k + 1 => min (mn pi k) (pi.getD (k + 1) 0)
def mx (pi : List Int) : Nat → Int
  | 0 => pi.getD 0 0
  | k + 1 => max (mx pi k) (pi.getD (k + 1) 0)
theorem mn_le (pi : List Int) : ∀ (k j : Nat), j ≤ k → mn pi k ≤ pi.getD j 0
  | 0, j, h => by obtain rfl : j = 0 := by omega
                  exact Int.le_refl _
  | k + 1, j, h => by
    rw [mn]
    by_cases e : j = k + 1
    · subst e; omega
    · have := mn_le pi k j (by omega); omega
theorem mx_le (pi : List Int) : ∀ (k j : Nat), j ≤ k → pi.getD j 0 ≤ mx pi k
  | 0, j, h => by obtain rfl : j = 0 := by omega
                  exact Int.le_refl _
  | k + 1, j, h => by
    rw [mx]
    by_cases e : j = k + 1
    · subst e; omega
    · have := mx_le pi k j (by omega); omega
theorem mn_ex (pi : List Int) : ∀ (k : Nat), ∃ j, j ≤ k ∧ mn pi k = pi.getD j 0
  | 0 => ⟨0, by omega, rfl⟩
  | k + 1 => by
    obtain ⟨j, h1, h2⟩ := mn_ex pi k
    rw [mn]
    by_cases h : mn pi k ≤ pi.getD (k + 1) 0
    · exact ⟨j, by omega, by omega⟩
    · exact ⟨k + 1, by omega, by omega⟩
theorem mx_ex (pi : List Int) : ∀ (k : Nat), ∃ j, j ≤ k ∧ mx pi k = pi.getD j 0
  | 0 => ⟨0, by omega, rfl⟩
  | k + 1 => by
    obtain ⟨j, h1, h2⟩ := mx_ex pi k
    rw [mx]
    by_cases h : pi.getD (k + 1) 0 ≤ mx pi k
    · exact ⟨j, by omega, by omega⟩
    · exact ⟨k + 1, by omega, by omega⟩
theorem piB_mm {pi : List Int} {n : Nat} (hl : pi.length = n + 1) (h1 : ¬ mn pi n < -10000) (h2 : ¬ 10000 < mx pi n) : piB pi = true := piB_of fun j hj => okP1_iff.2 (by
  have := mn_le pi n j (by omega)
  have := mx_le pi n j (by omega)
  omega)
theorem piB_mn {pi : List Int} {n : Nat} (hl : pi.length = n + 1) (h1 : mn pi n < -10000) : piB pi = false := by
  obtain ⟨j, hj, e⟩ := mn_ex pi n
  exact piB_not (k := j) (by omega) (.inl (by omega))
theorem piB_mx {pi : List Int} {n : Nat} (hl : pi.length = n + 1) (h1 : 10000 < mx pi n) : piB pi = false := by
  obtain ⟨j, hj, e⟩ := mx_ex pi n
  exact piB_not (k := j) (by omega) (.inr (by omega))

theorem wrapU8 {x : Int} (h : 0 ≤ x ∧ x ≤ 255) : IntKind.u8.wrap x = x := by
  simp [IntKind.wrap, IntKind.bits, IntKind.signed]; omega
theorem wrapB (u : UInt8) : IntKind.i64.wrap (u.toNat : Int) = u.toNat := wrap_ok (by have := u.toNat_lt; omega)

theorem Sp_get {pre sp : List Value} {xs : List Int} {i : Nat} (h : i < xs.length) : (pre ++ I xs ++ sp)[pre.length + ((i : Nat) : Int).toNat * 1]? = some (.int .i64 (xs.getD i 0)) := by
  rw [Int.toNat_natCast, Nat.mul_one, List.append_assoc, List.getElem?_append_right (by omega), Nat.add_sub_cancel_left, List.getElem?_append_left (by simpa using h)]
  have := I_getN h
  rw [Int.toNat_natCast, Nat.mul_one] at this
  exact this
theorem Sp_set {pre sp : List Value} {xs : List Int} {i : Nat} {v : Int} (h : i < xs.length) : (pre ++ I xs ++ sp).set (pre.length + ((i : Nat) : Int).toNat * 1) (.int .i64 v) = pre ++ I (xs.set i v) ++ sp := by
  rw [Int.toNat_natCast, Nat.mul_one, List.append_assoc, List.set_append_right _ _ (by omega), Nat.add_sub_cancel_left, List.set_append_left _ _ (by simpa using h), I_set, List.append_assoc]
def swp (ys : List Int) (j q : Nat) : List Int := (ys.set j (ys.getD q 0)).set q (ys.getD j 0)
theorem swp_perm {ys : List Int} {j q : Nat} (hj : j < ys.length) (hq : q < ys.length) : (swp ys j q).Perm ys := by
  have : ((ys.set j ys[q]).set q ys[j]).Perm ys := List.set_set_perm hj hq
  simpa [swp, hj, hq] using this
theorem swp_get {ys : List Int} {j q p : Nat} (hj : j < ys.length) (hq : q < ys.length) : (swp ys j q).getD p 0 = if p = q then ys.getD j 0 else if p = j then ys.getD q 0 else ys.getD p 0 := by
  unfold swp
  by_cases e : p = q
  · subst e; simp [hq]
  · rw [if_neg e]
    by_cases e2 : p = j
    · subst e2
      rw [if_pos rfl, List.getD_eq_getElem?_getD, List.getElem?_set_ne (by omega), List.getElem?_set_self hj]; rfl
    · rw [if_neg e2, List.getD_eq_getElem?_getD, List.getElem?_set_ne (by omega), List.getElem?_set_ne (by omega), ← List.getD_eq_getElem?_getD]
def SrtTo (ys : List Int) (i : Nat) : Prop := ∀ p q, p < q → q < i → ys.getD p 0 ≤ ys.getD q 0
def Ins (ys : List Int) (i j : Nat) : Prop := ∀ p q, p < q → q ≤ i → q ≠ j → ys.getD p 0 ≤ ys.getD q 0
theorem Ins.start {ys : List Int} {i : Nat} (h : SrtTo ys i) : Ins ys i i := fun p q h1 h2 h3 => h p q h1 (by omega)
theorem Ins.swap {ys : List Int} {i q : Nat} (h : Ins ys i (q + 1)) (hi : i < ys.length) (hq : q + 1 ≤ i) (hlt : ys.getD (q + 1) 0 < ys.getD q 0) : Ins (swp ys (q + 1) q) i q := fun a b h1 h2 h3 => by
  rw [swp_get (by omega) (by omega), swp_get (by omega) (by omega), if_neg h3]
  by_cases e : b = q + 1
  · subst e
    rw [if_pos rfl]
    by_cases e2 : a = q
    · subst e2; rw [if_pos rfl]; omega
    · rw [if_neg e2, if_neg (by omega)]
      exact h a q (by omega) (by omega) (by omega)
  · rw [if_neg e]
    by_cases e2 : a = q
    · subst e2; rw [if_pos rfl]
      exact h (a + 1) b (by omega) h2 e
    · rw [if_neg e2]
      by_cases e3 : a = q + 1
      · subst e3; rw [if_pos rfl]
        exact h q b (by omega) h2 e
      · rw [if_neg e3]
        exact h a b h1 h2 e
theorem Ins.stop0 {ys : List Int} {i : Nat} (h : Ins ys i 0) : SrtTo ys (i + 1) := fun p q h1 h2 => h p q h1 (by omega) (by omega)
theorem Ins.stop {ys : List Int} {i q : Nat} (h : Ins ys i (q + 1)) (hge : ¬ ys.getD (q + 1) 0 < ys.getD q 0) (hq : q + 1 ≤ i) : SrtTo ys (i + 1) := fun a b h1 h2 => by
  by_cases e : b = q + 1
  · subst e
    by_cases e2 : a = q
    · subst e2; omega
    · have := h a q (by omega) (by omega) (by omega); omega
  · exact h a b h1 (by omega) e
theorem sorted_two {ys : List Int} {n : Nat} (hl : ys.length = n) (hn : 2 ≤ n) (h : SrtTo ys n) (hb : ∀ j, ys.getD j 0 < far2) : twoL ys = (ys.getD 0 0, ys.getD 1 0) := by
  match ys, hl with
  | a :: b :: l, hl =>
    have h01 := h 0 1 (by omega) (by omega)
    have h1 := hb 1
    simp at h01 h1
    rw [twoL_sorted h01 (fun x hx => by
      obtain ⟨i, hi, rfl⟩ := List.mem_iff_getElem.1 hx
      have := h 1 (i + 2) (by omega) (by simp at hl; omega)
      simpa [hi] using this) h1]
    simp
  | [a], hl => simp at hl; omega
  | [], hl => simp at hl; omega

theorem mnS_spec (w : World) (A : Option Addr) (c : Nat) (pi : List Int) (n : Nat) (hn : pi.length = n + 1) (hl : pi.length ≤ 140737488351232) (hr : Rd w A (I pi)) : Calls Tryd.prog 92 #[.slice A pi.length c] w fun e w' => e = .returned (.int .i64 (mn pi n)) ∧ St w [] w' := by
  refine calls (args := [.slice A pi.length c]) Tryd.func92 rfl Tryd.ntmps92 (Nat.le_of_ble_eq_true rfl) (St.refl w) ?_
  refine J_seq ?_
  refine J_region ?_
  refine V_asg (.n _) rfl rfl ?_   -- 0.0
  refine V_sub [(0, _), (2, _)] ⟨rfl, rfl, trivial⟩ ?_
  refine V_nil (.inl rfl) ?_
  refine E_then ?_
  refine J_seq ?_
  refine J_seq ?_
  refine J_region ?_
  refine V_mov (.n _) rfl rfl ?_   -- 1.0
  refine V_len (.n _) Tryd.underlying34 rfl rfl ?_   -- 1.1
  refine V_lss (.n _) rfl rfl rfl ?_   -- 1.2
  refine V_sub [(0, _), (2, _), (7, _)] ⟨rfl, rfl, rfl, trivial⟩ ?_
  refine V_nil (.inl rfl) ?_
  refine E_then ?_
  refine J_cond rfl (fun h1 => ?_) (fun h1 => ?_)   -- C0
  · exact absurd h1 (by omega)
  · skip
    refine J_skip ?_
    refine E_then ?_
    refine J_seq ?_
    refine J_region ?_
    refine V_mov (.n _) rfl rfl ?_   -- 3.0
    first | refine V_ix (.n _) Tryd.underlying34 Tryd.sizeOf3 rfl rfl (by omega) (by omega) rfl ?_ | refine V_ixz (.n _) Tryd.underlying34 Tryd.sizeOf3 rfl rfl (hr.pl (by simp)) (by omega) (by omega) rfl ?_   -- 3.1
    refine V_ldz (.n _) Tryd.isAgg3 rfl hr (I_getN (i := 0) (by omega)) rfl ?_   -- 3.2
    refine V_asg (.n _) rfl rfl ?_   -- 3.3
    refine V_sub [(0, _), (2, _), (3, _), (7, _)] ⟨rfl, rfl, rfl, rfl, trivial⟩ ?_
    refine V_nil (.inl rfl) ?_
    refine E_then ?_
    refine J_seq ?_
    refine J_seq ?_
    refine J_region ?_
    refine V_asg (.n _) rfl rfl ?_   -- 4.0
    refine V_sub [(0, _), (2, _), (3, _), (4, _), (7, _)] ⟨rfl, rfl, rfl, rfl, rfl, trivial⟩ ?_
    refine V_nil (.inl rfl) ?_
    refine E_then ?_
    refine J_block ?_
    -- loop L0
    refine J_loop (X := Nat) (fun k => [(0, (.slice A pi.length c)), (2, (.int .i64 (0))), (3, .int .i64 (mn pi k)), (4, .int .i64 ((k + 1 : Nat) : Int))]) (fun k => []) (fun k => k ≤ n) (fun k => n - k) (0) (by refine ⟨?_, ?_, ?_, ?_, trivial⟩ <;> first | rfl | exact int_eq (by omega)) (fun w h => h) ?_ ?_
    · omega
    · rintro k hk
      refine J_seq ?_
      refine J_seq ?_
      refine J_region ?_
      refine V_mov (.n _) rfl rfl ?_   -- 5.0
      refine V_mov (.n _) rfl rfl ?_   -- 5.1
      refine V_len (.n _) Tryd.underlying34 rfl rfl ?_   -- 5.2
      refine V_lss (.n _) rfl rfl rfl ?_   -- 5.3
      refine V_sub [(0, _), (2, _), (3, _), (4, _), (15, _)] ⟨rfl, rfl, rfl, rfl, rfl, trivial⟩ ?_
      refine V_nil (.inl rfl) ?_
      refine E_then ?_
      refine J_cond rfl (fun h2 => ?_) (fun h2 => ?_)   -- C1
      · skip
        refine J_skip ?_
        refine E_then ?_
        refine J_seq ?_
        refine J_block ?_
        refine J_region ?_
        refine V_mov (.n _) rfl rfl ?_   -- 7.0
        refine V_mov (.n _) rfl rfl ?_   -- 7.1
        refine V_mov (.n _) rfl rfl ?_   -- 7.2
        first | refine V_ix (.n _) Tryd.underlying34 Tryd.sizeOf3 rfl rfl (by omega) (by omega) rfl ?_ | refine V_ixz (.n _) Tryd.underlying34 Tryd.sizeOf3 rfl rfl (hr.pl (by simp)) (by omega) (by omega) rfl ?_   -- 7.3
        refine V_ldz (.n _) Tryd.isAgg3 rfl hr (I_getN (i := k + 1) (by omega)) rfl ?_   -- 7.4
        refine V_min (.n _) rfl rfl rfl ?_   -- 7.5
        refine V_asg (.n _) rfl rfl ?_   -- 7.6
        refine V_sub [(0, _), (2, _), (3, _), (4, _), (15, _)] ⟨rfl, rfl, rfl, rfl, rfl, trivial⟩ ?_
        refine V_nil (.inl rfl) ?_
        refine E_blk ?_
        refine E_then ?_
        refine J_region ?_
        refine V_mov (.n _) rfl rfl ?_   -- 6.0
        refine V_add (.n _) rfl rfl (wrap_ok (by omega)) rfl ?_   -- 6.1
        refine V_asg (.n _) rfl rfl ?_   -- 6.2
        refine V_sub [(0, _), (2, _), (3, _), (4, _), (15, _)] ⟨rfl, rfl, rfl, rfl, rfl, trivial⟩ ?_
        refine V_nil (.inl rfl) ?_
        -- again L0 0
        refine E_again (k + 1) ?_ ?_ ?_ (fun w h => h)
        · omega
        · omega
        · refine ⟨?_, ?_, ?_, ?_, trivial⟩ <;> first | rfl | exact int_eq (by omega) | exact int_eq (by dsimp only; omega)
      · skip
        refine J_exit ?_
        refine E_then_exit ?_
        refine E_lp_exit ?_
        refine E_blk_hit ?_
        refine E_then ?_
        refine J_seq ?_
        refine J_region ?_
        refine V_mov (.n _) rfl rfl ?_   -- 8.0
        refine V_asg (.n _) rfl rfl ?_   -- 8.1
        refine V_sub [(0, _), (2, _), (3, _), (4, _), (15, _)] ⟨rfl, rfl, rfl, rfl, rfl, trivial⟩ ?_
        refine V_nil (.inl rfl) ?_
        refine E_then ?_
        refine J_ret ?_
        -- return R0
        refine E_ret1 Tryd.results92 rfl (fun w hw => ?_)
        obtain rfl : k = n := by omega
        exact ⟨rfl, hw⟩

theorem mxS_spec (w : World) (A : Option Addr) (c : Nat) (pi : List Int) (n : Nat) (hn : pi.length = n + 1) (hl : pi.length ≤ 140737488351232) (hr : Rd w A (I pi)) : Calls Tryd.prog 93 #[.slice A pi.length c] w fun e w' => e = .returned (.int .i64 (mx pi n)) ∧ St w [] w' := by
  refine calls (args := [.slice A pi.length c]) Tryd.func93 rfl Tryd.ntmps93 (Nat.le_of_ble_eq_true rfl) (St.refl w) ?_
  refine J_seq ?_
  refine J_region ?_
  refine V_asg (.n _) rfl rfl ?_   -- 0.0
  refine V_sub [(0, _), (2, _)] ⟨rfl, rfl, trivial⟩ ?_
  refine V_nil (.inl rfl) ?_
  refine E_then ?_
  refine J_seq ?_
  refine J_seq ?_
  refine J_region ?_
  refine V_mov (.n _) rfl rfl ?_   -- 1.0
  refine V_len (.n _) Tryd.underlying34 rfl rfl ?_   -- 1.1
  refine V_lss (.n _) rfl rfl rfl ?_   -- 1.2
  refine V_sub [(0, _), (2, _), (7, _)] ⟨rfl, rfl, rfl, trivial⟩ ?_
  refine V_nil (.inl rfl) ?_
  refine E_then ?_
  refine J_cond rfl (fun h1 => ?_) (fun h1 => ?_)   -- C0
  · exact absurd h1 (by omega)
  · skip
    refine J_skip ?_
    refine E_then ?_
    refine J_seq ?_
    refine J_region ?_
    refine V_mov (.n _) rfl rfl ?_   -- 3.0
    first | refine V_ix (.n _) Tryd.underlying34 Tryd.sizeOf3 rfl rfl (by omega) (by omega) rfl ?_ | refine V_ixz (.n _) Tryd.underlying34 Tryd.sizeOf3 rfl rfl (hr.pl (by simp)) (by omega) (by omega) rfl ?_   -- 3.1
    refine V_ldz (.n _) Tryd.isAgg3 rfl hr (I_getN (i := 0) (by omega)) rfl ?_   -- 3.2
    refine V_asg (.n _) rfl rfl ?_   -- 3.3
    refine V_sub [(0, _), (2, _), (3, _), (7, _)] ⟨rfl, rfl, rfl, rfl, trivial⟩ ?_
    refine V_nil (.inl rfl) ?_
    refine E_then ?_
    refine J_seq ?_
    refine J_seq ?_
    refine J_region ?_
    refine V_asg (.n _) rfl rfl ?_   -- 4.0
    refine V_sub [(0, _), (2, _), (3, _), (4, _), (7, _)] ⟨rfl, rfl, rfl, rfl, rfl, trivial⟩ ?_
    refine V_nil (.inl rfl) ?_
    refine E_then ?_
    refine J_block ?_
    -- loop L0
    refine J_loop (X := Nat) (fun k => [(0, (.slice A pi.length c)), (2, (.int .i64 (0))), (3, .int .i64 (mx pi k)), (4, .int .i64 ((k + 1 : Nat) : Int))]) (fun k => []) (fun k => k ≤ n) (fun k => n - k) (0) (by refine ⟨?_, ?_, ?_, ?_, trivial⟩ <;> first | rfl | exact int_eq (by omega)) (fun w h => h) ?_ ?_
    · omega
    · rintro k hk
      refine J_seq ?_
      refine J_seq ?_
      refine J_region ?_
      refine V_mov (.n _) rfl rfl ?_   -- 5.0
      refine V_mov (.n _) rfl rfl ?_   -- 5.1
      refine V_len (.n _) Tryd.underlying34 rfl rfl ?_   -- 5.2
      refine V_lss (.n _) rfl rfl rfl ?_   -- 5.3
      refine V_sub [(0, _), (2, _), (3, _), (4, _), (15, _)] ⟨rfl, rfl, rfl, rfl, rfl, trivial⟩ ?_
      refine V_nil (.inl rfl) ?_
      refine E_then ?_
      refine J_cond rfl (fun h2 => ?_) (fun h2 => ?_)   -- C1
      · skip
        refine J_skip ?_
        refine E_then ?_
        refine J_seq ?_
        refine J_block ?_
        refine J_region ?_
        refine V_mov (.n _) rfl rfl ?_   -- 7.0
        refine V_mov (.n _) rfl rfl ?_   -- 7.1
        refine V_mov (.n _) rfl rfl ?_   -- 7.2
        first | refine V_ix (.n _) Tryd.underlying34 Tryd.sizeOf3 rfl rfl (by omega) (by omega) rfl ?_ | refine V_ixz (.n _) Tryd.underlying34 Tryd.sizeOf3 rfl rfl (hr.pl (by simp)) (by omega) (by omega) rfl ?_   -- 7.3
        refine V_ldz (.n _) Tryd.isAgg3 rfl hr (I_getN (i := k + 1) (by omega)) rfl ?_   -- 7.4
        refine V_max (.n _) rfl rfl rfl ?_   -- 7.5
        refine V_asg (.n _) rfl rfl ?_   -- 7.6
        refine V_sub [(0, _), (2, _), (3, _), (4, _), (15, _)] ⟨rfl, rfl, rfl, rfl, rfl, trivial⟩ ?_
        refine V_nil (.inl rfl) ?_
        refine E_blk ?_
        refine E_then ?_
        refine J_region ?_
        refine V_mov (.n _) rfl rfl ?_   -- 6.0
        refine V_add (.n _) rfl rfl (wrap_ok (by omega)) rfl ?_   -- 6.1
        refine V_asg (.n _) rfl rfl ?_   -- 6.2
        refine V_sub [(0, _), (2, _), (3, _), (4, _), (15, _)] ⟨rfl, rfl, rfl, rfl, rfl, trivial⟩ ?_
        refine V_nil (.inl rfl) ?_
        -- again L0 0
        refine E_again (k + 1) ?_ ?_ ?_ (fun w h => h)
        · omega
        · omega
        · refine ⟨?_, ?_, ?_, ?_, trivial⟩ <;> first | rfl | exact int_eq (by omega) | exact int_eq (by dsimp only; omega)
      · skip
        refine J_exit ?_
        refine E_then_exit ?_
        refine E_lp_exit ?_
        refine E_blk_hit ?_
        refine E_then ?_
        refine J_seq ?_
        refine J_region ?_
        refine V_mov (.n _) rfl rfl ?_   -- 8.0
        refine V_asg (.n _) rfl rfl ?_   -- 8.1
        refine V_sub [(0, _), (2, _), (3, _), (4, _), (15, _)] ⟨rfl, rfl, rfl, rfl, rfl, trivial⟩ ?_
        refine V_nil (.inl rfl) ?_
        refine E_then ?_
        refine J_ret ?_
        -- return R0
        refine E_ret1 Tryd.results93 rfl (fun w hw => ?_)
        obtain rfl : k = n := by omega
        exact ⟨rfl, hw⟩

theorem less_spec (w : World) (x y : Int) : Calls Tryd.prog 132 #[.int .i64 x, .int .i64 y] w fun e w' => e = .returned (.bool (decide (x < y))) ∧ St w [] w' := by
  refine calls (args := [.int .i64 x, .int .i64 y]) Tryd.func132 rfl Tryd.ntmps132 (Nat.le_of_ble_eq_true rfl) (St.refl w) ?_
  refine J_seq ?_
  refine J_region ?_
  refine V_asg (.n _) rfl rfl ?_   -- 0.0
  refine V_sub [(0, _), (1, _), (4, _)] ⟨rfl, rfl, rfl, trivial⟩ ?_
  refine V_nil (.inl rfl) ?_
  refine E_then ?_
  refine J_seq ?_
  refine J_region ?_
  refine V_mov (.n _) rfl rfl ?_   -- 1.0
  refine V_call0 (.n _) Tryd.call111 (.cons rfl .nil) (fun w1 hw1 => isNaN_spec w1 x) rfl trivial ?_   -- 1.1
  refine V_mov (.n _) rfl rfl ?_   -- 1.2
  refine V_pass (.n .p) (2, true) rfl rfl ?_   -- 1.3
  refine V_pass (.n .p) (2, true) rfl rfl ?_   -- 1.4
  refine V_pass (.n .p) (2, true) rfl rfl ?_   -- 1.5
  refine V_pickF (.n _) rfl rfl rfl ?_   -- 1.6
  refine V_mov (.n _) rfl rfl ?_   -- 1.7
  refine V_go (7, false) rfl ?_
  refine V_mov (.n _) rfl rfl ?_   -- 1.8
  refine V_go (7, false) rfl ?_
  refine V_mov (.n _) rfl rfl ?_   -- 1.9
  refine V_go (7, false) rfl ?_
  refine V_lss (.n _) rfl rfl rfl ?_   -- 1.10
  refine V_pickF (.n _) rfl rfl rfl ?_   -- 1.11
  refine V_asg (.n _) rfl rfl ?_   -- 1.12
  refine V_sub [(0, _), (1, _), (4, _)] ⟨rfl, rfl, rfl, trivial⟩ ?_
  refine V_nil (.inl rfl) ?_
  refine E_then ?_
  refine J_ret ?_
  -- return R0
  refine E_ret1 Tryd.results132 rfl (fun w hw => ?_)
  exact ⟨rfl, hw⟩

theorem insort_spec (w0 w : World) (b cap : Nat) (pre sp : List Value) (xs : List Int) (R : List Ent) (hl : xs.length ≤ 12) (hst : St w0 (.c b 3 (pre ++ I xs ++ sp) :: R) w) : Calls Tryd.prog 126 #[.slice (some ⟨b, pre.length, none⟩) xs.length cap, .int .i64 0, .int .i64 xs.length] w fun e w' => ∃ ys, e = .returned (.tuple #[]) ∧ ys.Perm xs ∧ SrtTo ys xs.length ∧ St w0 (.c b 3 (pre ++ I ys ++ sp) :: R) w' := by
  refine calls (args := [.slice (some ⟨b, pre.length, none⟩) xs.length cap, .int .i64 0, .int .i64 xs.length]) Tryd.func126 rfl Tryd.ntmps126 (Nat.le_of_ble_eq_true rfl) hst ?_
  refine J_seq ?_
  refine J_region ?_
  refine V_mov (.n _) rfl rfl ?_   -- 0.0
  refine V_add (.n _) rfl rfl (wrap_ok (by omega)) rfl ?_   -- 0.1
  refine V_asg (.n _) rfl rfl ?_   -- 0.2
  refine V_sub [(0, _), (1, _), (2, _), (6, _)] ⟨rfl, rfl, rfl, rfl, trivial⟩ ?_
  refine V_nil (.inl rfl) ?_
  refine E_then ?_
  refine J_block ?_
  -- loop L0
  refine J_loop (X := Nat × List Int) (fun x => [(0, (.slice (some ⟨b, pre.length, none⟩) xs.length cap)), (1, (.int .i64 0)), (2, (.int .i64 xs.length)), (6, .int .i64 ((x.1 + 1 : Nat) : Int))]) (fun x => .c b 3 (pre ++ I x.2 ++ sp) :: R) (fun x => (x.2).Perm xs ∧ SrtTo x.2 (x.1 + 1) ∧ (x.1 + 1 ≤ xs.length ∨ x.1 = 0)) (fun x => xs.length - x.1) (0, xs) (by refine ⟨?_, ?_, ?_, ?_, trivial⟩ <;> first | rfl | exact int_eq (by omega)) (fun w h => h) ?_ ?_
  · exact ⟨List.Perm.refl _, fun p q h1 h2 => by omega, .inr rfl⟩
  · rintro ⟨i, ys⟩ ⟨hp, hs, hi⟩
    dsimp only at hp hs hi ⊢
    refine J_seq ?_
    refine J_seq ?_
    refine J_region ?_
    refine V_mov (.n _) rfl rfl ?_   -- 1.0
    refine V_mov (.n _) rfl rfl ?_   -- 1.1
    refine V_lss (.n _) rfl rfl rfl ?_   -- 1.2
    refine V_sub [(0, _), (1, _), (2, _), (6, _), (12, _)] ⟨rfl, rfl, rfl, rfl, rfl, trivial⟩ ?_
    refine V_nil (.inl rfl) ?_
    refine E_then ?_
    refine J_cond rfl (fun h1 => ?_) (fun h1 => ?_)   -- C0
    · skip
      refine J_skip ?_
      refine E_then ?_
      refine J_seq ?_
      refine J_block ?_
      refine J_seq ?_
      refine J_region ?_
      refine V_mov (.n _) rfl rfl ?_   -- 3.0
      refine V_asg (.n _) rfl rfl ?_   -- 3.1
      refine V_sub [(0, _), (1, _), (2, _), (6, _), (7, _), (12, _)] ⟨rfl, rfl, rfl, rfl, rfl, rfl, trivial⟩ ?_
      refine V_nil (.inl rfl) ?_
      refine E_then ?_
      refine J_block ?_
      -- loop L1
      refine J_loop (X := Nat × List Int) (fun x => [(0, (.slice (some ⟨b, pre.length, none⟩) xs.length cap)), (1, (.int .i64 0)), (2, (.int .i64 xs.length)), (6, .int .i64 ((i + 1 : Nat) : Int)), (7, .int .i64 (x.1 : Nat))]) (fun x => .c b 3 (pre ++ I x.2 ++ sp) :: R) (fun x => x.1 ≤ i + 1 ∧ (x.2).Perm xs ∧ Ins x.2 (i + 1) x.1) (fun x => x.1) (i + 1, ys) (by refine ⟨?_, ?_, ?_, ?_, ?_, trivial⟩ <;> first | rfl | exact int_eq (by omega)) (fun w h => h) ?_ ?_
      · exact ⟨Nat.le_refl _, hp, Ins.start hs⟩
      · rintro ⟨j, ys2⟩ ⟨hj, hp2, hI⟩
        dsimp only at hj hp2 hI ⊢
        have hl2 := hp2.length_eq
        refine J_seq ?_
        refine J_seq ?_
        refine J_draw (Gs := _) (cl := [.p, .p, .p, .p, .p, .p, .p, .r, .p, .p, .p, .p, .r, .e, .p]) (by kernel_rfl) (fun _ _ h => h) ?_
        refine V_mov (.s _ _ _) rfl rfl ?_   -- 4.0
        refine V_mov (.s _ _ _) rfl rfl ?_   -- 4.1
        refine V_gtr (.s _ _ _) rfl rfl rfl ?_   -- 4.2
        refine V_mov (.s _ _ _) rfl rfl ?_   -- 4.3
        refine V_split 19 rfl (fun h2 => ?_) (fun h2 => ?_)   -- guard 4.3
        · skip
          refine V_go (3, true) rfl ?_
          refine V_mov (.s _ _ _) rfl rfl ?_   -- 4.4
          refine V_go (3, true) rfl ?_
          refine V_mov (.s _ _ _) rfl rfl ?_   -- 4.5
          refine V_go (3, true) rfl ?_
          first | refine V_ix (.s _ _ _) Tryd.underlying34 Tryd.sizeOf3 rfl rfl (by omega) (by omega) rfl ?_ | refine V_ixz (.s _ _ _) Tryd.underlying34 Tryd.sizeOf3 rfl rfl (Pl.own _ _ _) (by omega) (by omega) rfl ?_   -- 4.6
          refine V_go (3, true) rfl ?_
          refine V_ld (.s _ _ _) Tryd.isAgg3 rfl (List.Mem.head _) (Sp_get (xs := ys2) (i := j) (by omega)) rfl ?_   -- 4.7
          refine V_go (3, true) rfl ?_
          refine V_mov (.s _ _ _) rfl rfl ?_   -- 4.8
          refine V_go (3, true) rfl ?_
          refine V_mov (.s _ _ _) rfl rfl ?_   -- 4.9
          refine V_go (3, true) rfl ?_
          obtain ⟨q, hq⟩ : ∃ q, j = q + 1 := ⟨j - 1, by omega⟩
          refine V_sub1 (.s _ _ _) rfl rfl (wrap_ok (by omega)) rfl ?_   -- 4.10
          rw [show ((j : Nat) : Int) - 1 = (q : Int) by omega]
          refine V_go (3, true) rfl ?_
          first | refine V_ix (.s _ _ _) Tryd.underlying34 Tryd.sizeOf3 rfl rfl (by omega) (by omega) rfl ?_ | refine V_ixz (.s _ _ _) Tryd.underlying34 Tryd.sizeOf3 rfl rfl (Pl.own _ _ _) (by omega) (by omega) rfl ?_   -- 4.11
          refine V_go (3, true) rfl ?_
          refine V_ld (.s _ _ _) Tryd.isAgg3 rfl (List.Mem.head _) (Sp_get (xs := ys2) (i := q) (by omega)) rfl ?_   -- 4.12
          refine V_go (3, true) rfl ?_
          refine V_call0 (.s _ _ _) Tryd.call132 (.cons rfl (.cons rfl .nil)) (fun w1 hw1 => less_spec w1 (ys2.getD j 0) (ys2.getD q 0)) rfl (fun _ _ h => h.sublist (by simp)) ?_   -- 4.13
          refine V_pickT (.s _ _ _) rfl rfl rfl ?_   -- 4.14
          refine V_sub [(0, _), (1, _), (2, _), (6, _), (7, _), (30, _)] ⟨rfl, rfl, rfl, rfl, rfl, rfl, trivial⟩ ?_
          refine V_nil (.inr ⟨_, rfl⟩) ?_
          refine E_then ?_
          refine J_cond rfl (fun h3 => ?_) (fun h3 => ?_)   -- C1
          · skip
            refine J_skip ?_
            refine E_then ?_
            refine J_seq ?_
            refine J_block ?_
            refine J_drawG [0, 0, 6, 6, 7, 0, 0, 1, 2, 3, 0, 0, 1, 2, 4, 5, 8, 9] (Gs := _) (cl := [.p, .p, .p, .p, .p, .p, .p, .p, .p, .r, .p, .p, .p, .r, .p, .w, .p, .w]) (by kernel_rfl) (fun _ _ h => h) ?_
            refine V_mov (.s _ _ _) rfl rfl ?_   -- 6.0
            refine V_mov (.s _ _ _) rfl rfl ?_   -- 6.1
            refine V_mov (.s _ _ _) rfl rfl ?_   -- 6.2
            refine V_mov (.s _ _ _) rfl rfl ?_   -- 6.3
            refine V_sub1 (.s _ _ _) rfl rfl (wrap_ok (by omega)) rfl ?_   -- 6.4
            rw [show ((j : Nat) : Int) - 1 = (q : Int) by omega]
            refine V_mov (.s _ _ _) rfl rfl ?_   -- 6.5
            refine V_mov (.s _ _ _) rfl rfl ?_   -- 6.6
            refine V_sub1 (.s _ _ _) rfl rfl (wrap_ok (by omega)) rfl ?_   -- 6.7
            rw [show ((j : Nat) : Int) - 1 = (q : Int) by omega]
            first | refine V_ix (.s _ _ _) Tryd.underlying34 Tryd.sizeOf3 rfl rfl (by omega) (by omega) rfl ?_ | refine V_ixz (.s _ _ _) Tryd.underlying34 Tryd.sizeOf3 rfl rfl (Pl.own _ _ _) (by omega) (by omega) rfl ?_   -- 6.8
            refine V_ld (.s _ _ _) Tryd.isAgg3 rfl (List.Mem.head _) (Sp_get (xs := ys2) (i := q) (by omega)) rfl ?_   -- 6.9
            refine V_mov (.s _ _ _) rfl rfl ?_   -- 6.10
            refine V_mov (.s _ _ _) rfl rfl ?_   -- 6.11
            first | refine V_ix (.s _ _ _) Tryd.underlying34 Tryd.sizeOf3 rfl rfl (by omega) (by omega) rfl ?_ | refine V_ixz (.s _ _ _) Tryd.underlying34 Tryd.sizeOf3 rfl rfl (Pl.own _ _ _) (by omega) (by omega) rfl ?_   -- 6.12
            refine V_ld (.s _ _ _) Tryd.isAgg3 rfl (List.Mem.head _) (Sp_get (xs := ys2) (i := j) (by omega)) rfl ?_   -- 6.13
            first | refine V_ix (.s _ _ _) Tryd.underlying34 Tryd.sizeOf3 rfl rfl (by omega) (by omega) rfl ?_ | refine V_ixz (.s _ _ _) Tryd.underlying34 Tryd.sizeOf3 rfl rfl (Pl.own _ _ _) (by omega) (by omega) rfl ?_   -- 6.14
            refine V_st (cs' := pre ++ I (ys2.set j (ys2.getD q 0)) ++ sp) (.s _ _ _) Tryd.sizeOf3 rfl rfl rfl .z (Sp_set (by omega)) (by simp; omega) ?_   -- 6.15
            first | refine V_ix (.s _ _ _) Tryd.underlying34 Tryd.sizeOf3 rfl rfl (by omega) (by omega) rfl ?_ | refine V_ixz (.s _ _ _) Tryd.underlying34 Tryd.sizeOf3 rfl rfl (Pl.own _ _ _) (by omega) (by omega) rfl ?_   -- 6.16
            refine V_st (cs' := pre ++ I (swp ys2 j q) ++ sp) (.s _ _ _) Tryd.sizeOf3 rfl rfl rfl .z (Sp_set (by rw [List.length_set]; omega)) (by simp; omega) ?_   -- 6.17
            refine V_sub [(0, _), (1, _), (2, _), (6, _), (7, _), (30, _)] ⟨rfl, rfl, rfl, rfl, rfl, rfl, trivial⟩ ?_
            refine V_nil (.inr ⟨_, rfl⟩) ?_
            refine E_blk ?_
            refine E_then ?_
            refine J_region ?_
            refine V_mov (.n _) rfl rfl ?_   -- 5.0
            refine V_sub1 (.n _) rfl rfl (wrap_ok (by omega)) rfl ?_   -- 5.1
            refine V_asg (.n _) rfl rfl ?_   -- 5.2
            refine V_sub [(0, _), (1, _), (2, _), (6, _), (7, _), (30, _)] ⟨rfl, rfl, rfl, rfl, rfl, rfl, trivial⟩ ?_
            refine V_nil (.inl rfl) ?_
            -- again L1 0
            refine E_again (X := Nat × List Int) (KI := fun x => [(0, (.slice (some ⟨b, pre.length, none⟩) xs.length cap)), (1, (.int .i64 0)), (2, (.int .i64 xs.length)), (6, .int .i64 ((i + 1 : Nat) : Int)), (7, .int .i64 (x.1 : Nat))]) (GI := fun x => .c b 3 (pre ++ I x.2 ++ sp) :: R) (I := fun x => x.1 ≤ i + 1 ∧ (x.2).Perm xs ∧ Ins x.2 (i + 1) x.1) (μ := fun x => x.1) (x := (j, ys2)) ((q, swp ys2 j q)) ?_ ?_ ?_ (fun w h => h)
            · show q < j; omega
            · subst hq
              exact ⟨by dsimp only; omega, (swp_perm (by omega) (by omega)).trans hp2, hI.swap (by omega) (by omega) (by assumption)⟩
            · refine ⟨?_, ?_, ?_, ?_, ?_, trivial⟩ <;> first | rfl | exact int_eq (by omega) | exact int_eq (by dsimp only; omega)
          · skip
            refine J_exit ?_
            refine E_then_exit ?_
            refine E_lp_exit ?_
            refine E_blk_hit ?_
            refine E_blk ?_
            refine E_then ?_
            refine J_region ?_
            refine V_mov (.n _) rfl rfl ?_   -- 2.0
            refine V_add (.n _) rfl rfl (wrap_ok (by omega)) rfl ?_   -- 2.1
            refine V_asg (.n _) rfl rfl ?_   -- 2.2
            refine V_sub [(0, _), (1, _), (2, _), (6, _), (7, _), (30, _)] ⟨rfl, rfl, rfl, rfl, rfl, rfl, trivial⟩ ?_
            refine V_nil (.inl rfl) ?_
            -- again L0 0
            rw [hq] at hI
            refine E_again (X := Nat × List Int) (KI := fun x => [(0, (.slice (some ⟨b, pre.length, none⟩) xs.length cap)), (1, (.int .i64 0)), (2, (.int .i64 xs.length)), (6, .int .i64 ((x.1 + 1 : Nat) : Int))]) (GI := fun x => .c b 3 (pre ++ I x.2 ++ sp) :: R) (I := fun x => (x.2).Perm xs ∧ SrtTo x.2 (x.1 + 1) ∧ (x.1 + 1 ≤ xs.length ∨ x.1 = 0)) (μ := fun x => xs.length - x.1) (x := (i, ys)) ((i + 1, ys2)) ?_ ?_ ?_ (fun w h => h)
            · show xs.length - (i + 1) < xs.length - i; omega
            · exact ⟨hp2, hI.stop (by subst hq; assumption) (by omega), by dsimp only; omega⟩
            · refine ⟨?_, ?_, ?_, ?_, trivial⟩ <;> first | rfl | exact int_eq (by omega) | exact int_eq (by dsimp only; omega)
        · skip
          refine V_pass (.s _ _ _) (3, true) rfl rfl ?_   -- 4.4
          refine V_pass (.s _ _ _) (3, true) rfl rfl ?_   -- 4.5
          refine V_pass (.s _ _ _) (3, true) rfl rfl ?_   -- 4.6
          refine V_pass (.s _ _ _) (3, true) rfl rfl ?_   -- 4.7
          refine V_pass (.s _ _ _) (3, true) rfl rfl ?_   -- 4.8
          refine V_pass (.s _ _ _) (3, true) rfl rfl ?_   -- 4.9
          refine V_pass (.s _ _ _) (3, true) rfl rfl ?_   -- 4.10
          refine V_pass (.s _ _ _) (3, true) rfl rfl ?_   -- 4.11
          refine V_pass (.s _ _ _) (3, true) rfl rfl ?_   -- 4.12
          refine V_pass (.s _ _ _) (3, true) rfl rfl ?_   -- 4.13
          refine V_pickF (.s _ _ _) rfl rfl rfl ?_   -- 4.14
          refine V_sub [(0, _), (1, _), (2, _), (6, _), (7, _), (30, _)] ⟨rfl, rfl, rfl, rfl, rfl, rfl, trivial⟩ ?_
          refine V_nil (.inr ⟨_, rfl⟩) ?_
          refine E_then ?_
          refine J_condF rfl ?_
          refine J_exit ?_
          refine E_then_exit ?_
          refine E_lp_exit ?_
          refine E_blk_hit ?_
          refine E_blk ?_
          refine E_then ?_
          refine J_region ?_
          refine V_mov (.n _) rfl rfl ?_   -- 2.0
          refine V_add (.n _) rfl rfl (wrap_ok (by omega)) rfl ?_   -- 2.1
          refine V_asg (.n _) rfl rfl ?_   -- 2.2
          refine V_sub [(0, _), (1, _), (2, _), (6, _), (7, _), (30, _)] ⟨rfl, rfl, rfl, rfl, rfl, rfl, trivial⟩ ?_
          refine V_nil (.inl rfl) ?_
          -- again L0 1
          obtain rfl : j = 0 := by omega
          refine E_again (X := Nat × List Int) (KI := fun x => [(0, (.slice (some ⟨b, pre.length, none⟩) xs.length cap)), (1, (.int .i64 0)), (2, (.int .i64 xs.length)), (6, .int .i64 ((x.1 + 1 : Nat) : Int))]) (GI := fun x => .c b 3 (pre ++ I x.2 ++ sp) :: R) (I := fun x => (x.2).Perm xs ∧ SrtTo x.2 (x.1 + 1) ∧ (x.1 + 1 ≤ xs.length ∨ x.1 = 0)) (μ := fun x => xs.length - x.1) (x := (i, ys)) ((i + 1, ys2)) ?_ ?_ ?_ (fun w h => h)
          · show xs.length - (i + 1) < xs.length - i; omega
          · exact ⟨hp2, hI.stop0, by dsimp only; omega⟩
          · refine ⟨?_, ?_, ?_, ?_, trivial⟩ <;> first | rfl | exact int_eq (by omega) | exact int_eq (by dsimp only; omega)
    · skip
      refine J_exit ?_
      refine E_then_exit ?_
      refine E_lp_exit ?_
      refine E_blk_hit ?_
      refine E_fall ?_
      -- return R0
      refine E_ret0 Tryd.results126 (fun w hw => ?_)
      exact ⟨ys, rfl, hp, fun p q h1 h2 => hs p q h1 (by omega), hw⟩

set_option maxRecDepth 100000 in
theorem len64_spec (w : World) (x : Nat) (hx : x < 200) : Calls Tryd.prog 136 #[.int .u64 (x : Nat)] w fun e w' => ∃ v D, e = .returned v ∧ St w D w' ∧ ∃ z : Int, v = .int .i64 z ∧ D = [] := by
  refine calls (args := [.int .u64 (x : Nat)]) Tryd.func136 rfl Tryd.ntmps136 (Nat.le_of_ble_eq_true rfl) (St.refl w) ?_
  refine J_seq ?_
  refine J_region ?_
  refine V_asg (.n _) rfl rfl ?_   -- 0.0
  refine V_sub [(0, _), (2, _)] ⟨rfl, rfl, trivial⟩ ?_
  refine V_nil (.inl rfl) ?_
  refine E_then ?_
  refine J_seq ?_
  refine J_seq ?_
  refine J_region ?_
  refine V_mov (.n _) rfl rfl ?_   -- 1.0
  refine V_geq (.n _) rfl rfl rfl ?_   -- 1.1
  refine V_sub [(0, _), (2, _), (4, _)] ⟨rfl, rfl, rfl, trivial⟩ ?_
  refine V_nil (.inl rfl) ?_
  refine E_then ?_
  refine J_cond rfl (fun h1 => ?_) (fun h1 => ?_)   -- C0
  · exact absurd h1 (by omega)
  · skip
    refine J_skip ?_
    refine E_then ?_
    refine J_seq ?_
    refine J_seq ?_
    refine J_region ?_
    refine V_mov (.n _) rfl rfl ?_   -- 4.0
    refine V_geq (.n _) rfl rfl rfl ?_   -- 4.1
    refine V_sub [(0, _), (2, _), (4, _), (8, _)] ⟨rfl, rfl, rfl, rfl, trivial⟩ ?_
    refine V_nil (.inl rfl) ?_
    refine E_then ?_
    refine J_cond rfl (fun h2 => ?_) (fun h2 => ?_)   -- C1
    · exact absurd h2 (by omega)
    · skip
      refine J_skip ?_
      refine E_then ?_
      refine J_seq ?_
      refine J_seq ?_
      refine J_region ?_
      refine V_mov (.n _) rfl rfl ?_   -- 7.0
      refine V_geq (.n _) rfl rfl rfl ?_   -- 7.1
      refine V_sub [(0, _), (2, _), (4, _), (8, _), (14, _)] ⟨rfl, rfl, rfl, rfl, rfl, trivial⟩ ?_
      refine V_nil (.inl rfl) ?_
      refine E_then ?_
      refine J_cond rfl (fun h3 => ?_) (fun h3 => ?_)   -- C2
      · exact absurd h3 (by omega)
      · skip
        refine J_skip ?_
        refine E_then ?_
        refine J_seq ?_
        refine J_region ?_
        refine V_mov (.n _) rfl rfl ?_   -- 10.0
        refine V_mov (.n _) rfl rfl ?_   -- 10.1
        refine V_cvi (.n _) Tryd.underlying147 Tryd.underlying5 rfl (wrapU8 (by omega)) rfl ?_   -- 10.2
        refine V_sidx (.n _) Tryd.underlying9 rfl rfl (by omega) (Int.lt_of_lt_of_le (show ((x : Nat) : Int) < ((256 : Nat) : Int) by omega) (Int.ofNat_le.2 (Nat.le_of_ble_eq_true (by kernel_rfl)))) rfl ?_   -- 10.3
        refine V_cvi (.n _) Tryd.underlying5 Tryd.underlying3 rfl (wrapB _) rfl ?_   -- 10.4
        refine V_addw (.n _) rfl rfl rfl ?_   -- 10.5
        refine V_asg (.n _) rfl rfl ?_   -- 10.6
        refine V_sub [(0, _), (2, _), (4, _), (8, _), (14, _)] ⟨rfl, rfl, rfl, rfl, rfl, trivial⟩ ?_
        refine V_nil (.inl rfl) ?_
        refine E_then ?_
        refine J_ret ?_
        -- return R0
        refine E_ret1 Tryd.results136 rfl (fun w hw => ?_)
        exact ⟨_, [], rfl, hw, _, rfl, rfl⟩

theorem blen_spec (w : World) (x : Nat) (hx : x < 200) : Calls Tryd.prog 114 #[.int .u64 (x : Nat)] w fun e w' => ∃ v D, e = .returned v ∧ St w D w' ∧ ∃ z : Int, v = .int .i64 z ∧ D = [] := by
  refine calls (args := [.int .u64 (x : Nat)]) Tryd.func114 rfl Tryd.ntmps114 (Nat.le_of_ble_eq_true rfl) (St.refl w) ?_
  refine J_seq ?_
  refine J_region ?_
  refine V_asg (.n _) rfl rfl ?_   -- 0.0
  refine V_sub [(0, _), (2, _)] ⟨rfl, rfl, trivial⟩ ?_
  refine V_nil (.inl rfl) ?_
  refine E_then ?_
  refine J_seq ?_
  refine J_condF rfl ?_
  refine J_skip ?_
  refine E_then ?_
  refine J_seq ?_
  refine J_region ?_
  refine V_mov (.n _) rfl rfl ?_   -- 2.0
  refine V_call (post := fun v D => ∃ z : Int, v = .int .i64 z ∧ D = []) (.n _) Tryd.call136 (.cons rfl .nil) (fun w1 hw1 => len64_spec w1 x hx) rfl trivial ?_
  rintro _ _ ⟨z, rfl, rfl⟩
  refine V_asg (.n _) rfl rfl ?_   -- 2.2
  refine V_sub [(0, _), (2, _)] ⟨rfl, rfl, trivial⟩ ?_
  refine V_nil (.inl rfl) ?_
  refine E_then ?_
  refine J_ret ?_
  -- return R0
  refine E_ret1 Tryd.results114 rfl (fun w hw => ?_)
  exact ⟨_, [], rfl, hw, z, rfl, rfl⟩

theorem pdq_spec (w0 w : World) (b cap : Nat) (pre sp : List Value) (xs : List Int) (R : List Ent) (hl : xs.length ≤ 12) (hst : St w0 (.c b 3 (pre ++ I xs ++ sp) :: R) w) (z : Int) : Calls Tryd.prog 113 #[.slice (some ⟨b, pre.length, none⟩) xs.length cap, .int .i64 0, .int .i64 xs.length, .int .i64 z] w fun e w' => ∃ ys, e = .returned (.tuple #[]) ∧ ys.Perm xs ∧ SrtTo ys xs.length ∧ St w0 (.c b 3 (pre ++ I ys ++ sp) :: R) w' := by
  refine calls (args := [.slice (some ⟨b, pre.length, none⟩) xs.length cap, .int .i64 0, .int .i64 xs.length, .int .i64 z]) Tryd.func113 rfl Tryd.ntmps113 (Nat.le_of_ble_eq_true rfl) hst ?_
  refine J_seq ?_
  refine J_region ?_
  refine V_asg (.n _) rfl rfl ?_   -- 0.0
  refine V_sub [(0, _), (1, _), (2, _), (3, _), (8, _)] ⟨rfl, rfl, rfl, rfl, rfl, trivial⟩ ?_
  refine V_nil (.inl rfl) ?_
  refine E_then ?_
  refine J_seq ?_
  refine J_region ?_
  refine V_asg (.n _) rfl rfl ?_   -- 1.0
  refine V_sub [(0, _), (1, _), (2, _), (3, _), (8, _), (9, _)] ⟨rfl, rfl, rfl, rfl, rfl, rfl, trivial⟩ ?_
  refine V_nil (.inl rfl) ?_
  refine E_then ?_
  refine J_block ?_
  -- loop L0
  refine J_loop (X := Unit) (fun _ => [(0, (.slice (some ⟨b, pre.length, none⟩) xs.length cap)), (1, .int .i64 0), (2, .int .i64 xs.length), (3, .int .i64 z), (8, .bool true), (9, .bool true)]) (fun _ => .c b 3 (pre ++ I xs ++ sp) :: R) (fun _ => True) (fun _ => 0) (()) (by refine ⟨?_, ?_, ?_, ?_, ?_, ?_, trivial⟩ <;> first | rfl | exact int_eq (by omega)) (fun w h => h) ?_ ?_
  · trivial
  · rintro _ _
    refine J_block ?_
    refine J_seq ?_
    refine J_region ?_
    refine V_mov (.n _) rfl rfl ?_   -- 2.0
    refine V_mov (.n _) rfl rfl ?_   -- 2.1
    refine V_sub1 (.n _) rfl rfl (wrap_ok (by omega)) rfl ?_   -- 2.2
    rw [show ((xs.length : Nat) : Int) - 0 = (xs.length : Int) by omega]
    refine V_asg (.n _) rfl rfl ?_   -- 2.3
    refine V_sub [(0, _), (1, _), (2, _), (3, _), (8, _), (9, _), (10, _)] ⟨rfl, rfl, rfl, rfl, rfl, rfl, rfl, trivial⟩ ?_
    refine V_nil (.inl rfl) ?_
    refine E_then ?_
    refine J_seq ?_
    refine J_seq ?_
    refine J_region ?_
    refine V_mov (.n _) rfl rfl ?_   -- 3.0
    refine V_leq (.n _) rfl rfl rfl ?_   -- 3.1
    refine V_sub [(0, _), (1, _), (2, _), (3, _), (8, _), (9, _), (10, _), (23, _)] ⟨rfl, rfl, rfl, rfl, rfl, rfl, rfl, rfl, trivial⟩ ?_
    refine V_nil (.inl rfl) ?_
    refine E_then ?_
    refine J_cond rfl (fun h1 => ?_) (fun h1 => ?_)   -- C0
    · skip
      refine J_seq ?_
      refine J_region ?_
      refine V_mov (.n _) rfl rfl ?_   -- 4.0
      refine V_mov (.n _) rfl rfl ?_   -- 4.1
      refine V_mov (.n _) rfl rfl ?_   -- 4.2
      refine V_callW (post := fun v1 G' => ∃ ys, v1 = .tuple #[] ∧ ys.Perm xs ∧ SrtTo ys xs.length ∧ G' = .c b 3 (pre ++ I ys ++ sp) :: R) (.n _) Tryd.call126 (.cons rfl (.cons rfl (.cons rfl .nil))) (fun w1 hw1 => (insort_spec w0 w1 b cap pre sp xs R hl hw1).mono fun e w2 ⟨ys, he, h1, h2, h3⟩ => ⟨_, _, he, h3, ys, rfl, h1, h2, rfl⟩) rfl ?_
      rintro _ G' ⟨ys, rfl, hp, hs, rfl⟩
      refine V_sub [(0, _), (1, _), (2, _), (3, _), (8, _), (9, _), (10, _), (23, _)] ⟨rfl, rfl, rfl, rfl, rfl, rfl, rfl, rfl, trivial⟩ ?_
      refine V_nil (.inl rfl) ?_
      refine E_then ?_
      refine J_ret ?_
      refine E_then_ret ?_
      refine E_blk_ret ?_
      refine E_lp_ret ?_
      refine E_blk_ret ?_
      -- return R0
      refine E_ret0 Tryd.results113 (fun w hw => ?_)
      exact ⟨ys, rfl, hp, hs, hw⟩
    · exact absurd (by omega) h1

theorem sort_spec (w0 w : World) (b cap : Nat) (pre sp : List Value) (xs : List Int) (R : List Ent) (hl : xs.length ≤ 12) (hst : St w0 (.c b 3 (pre ++ I xs ++ sp) :: R) w) : Calls Tryd.prog 95 #[.slice (some ⟨b, pre.length, none⟩) xs.length cap] w fun e w' => ∃ ys, e = .returned (.tuple #[]) ∧ ys.Perm xs ∧ SrtTo ys xs.length ∧ St w0 (.c b 3 (pre ++ I ys ++ sp) :: R) w' := by
  refine calls (args := [.slice (some ⟨b, pre.length, none⟩) xs.length cap]) Tryd.func95 rfl Tryd.ntmps95 (Nat.le_of_ble_eq_true rfl) hst ?_
  refine J_seq ?_
  refine J_region ?_
  refine V_mov (.n _) rfl rfl ?_   -- 0.0
  refine V_len (.n _) Tryd.underlying34 rfl rfl ?_   -- 0.1
  refine V_asg (.n _) rfl rfl ?_   -- 0.2
  refine V_sub [(0, _), (2, _)] ⟨rfl, rfl, trivial⟩ ?_
  refine V_nil (.inl rfl) ?_
  refine E_then ?_
  refine J_region ?_
  refine V_mov (.n _) rfl rfl ?_   -- 1.0
  refine V_mov (.n _) rfl rfl ?_   -- 1.1
  refine V_mov (.n _) rfl rfl ?_   -- 1.2
  refine V_cvi (.n _) Tryd.underlying3 Tryd.underlying71 rfl (wrapU (by omega)) rfl ?_   -- 1.3
  refine V_call (post := fun v D => ∃ z : Int, v = .int .i64 z ∧ D = []) (.n _) Tryd.call114 (.cons rfl .nil) (fun w1 hw1 => blen_spec w1 xs.length (by omega)) rfl trivial ?_
  rintro _ _ ⟨z, rfl, rfl⟩
  refine V_callW (post := fun v1 G' => ∃ ys, v1 = .tuple #[] ∧ ys.Perm xs ∧ SrtTo ys xs.length ∧ G' = .c b 3 (pre ++ I ys ++ sp) :: R) (.n _) Tryd.call113 (.cons rfl (.cons rfl (.cons rfl (.cons rfl .nil)))) (fun w1 hw1 => (pdq_spec w0 w1 b cap pre sp xs R hl hw1 z).mono fun e w2 ⟨ys, he, h1, h2, h3⟩ => ⟨_, _, he, h3, ys, rfl, h1, h2, rfl⟩) rfl ?_
  rintro _ G' ⟨ys, rfl, hp, hs, rfl⟩
  refine V_sub [(0, _), (2, _)] ⟨rfl, rfl, trivial⟩ ?_
  refine V_nil (.inl rfl) ?_
  refine E_fall ?_
  -- return R0
  refine E_ret0 Tryd.results95 (fun w hw => ?_)
  exact ⟨ys, rfl, hp, hs, hw⟩

end Go.Proofs.YtgeahmmepfmcoaaDoor
