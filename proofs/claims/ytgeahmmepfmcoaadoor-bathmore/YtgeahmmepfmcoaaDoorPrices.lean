/- parts of the proofs of the bath statements -/
import Derived.Test.YtgeahmmepfmcoaaDoorNeeds
namespace Go.Proofs.YtgeahmmepfmcoaaDoor
open Go Go.RowKit L
set_option linter.unusedVariables false
set_option linter.unusedSimpArgs false

/-! rows that repeat -/
def repC (v : Int) (k n : Nat) : List Int := List.replicate n v ++ List.replicate (k - n) 0
@[simp] theorem repC_length {v : Int} {k n : Nat} (h : n ≤ k) : (repC v k n).length = k := by simp [repC]; omega
theorem shr32 {k : Nat} (h : k < 2 ^ 32) : (k : Int) / 2 ^ (32 : Int).toNat = 0 := by
  rw [show (2 : Int) ^ (32 : Int).toNat = 4294967296 by decide]; omega
theorem I_app (a b : List Int) : I (a ++ b) = I a ++ I b := by simp [I]
theorem I_repl (k : Nat) (v : Int) : I (List.replicate k v) = List.replicate k (Value.int .i64 v) := by simp [I]
theorem rep_over {v : Int} {k n m : Nat} (h : n + m ≤ k) : over (I (repC v k n)) n (I (List.replicate m v)) = I (repC v k (n + m)) := by
  unfold over repC
  rw [I_app, I_repl, I_repl, I_repl, I_app, I_repl, I_repl, List.length_replicate]
  rw [List.take_left' (by simp), List.drop_append, List.drop_of_length_le (by simp), List.nil_append, List.drop_replicate, List.length_replicate]
  rw [List.replicate_append_replicate]
  congr 2; omega
theorem rep_first {v : Int} {k : Nat} (h : 1 ≤ k) : over (List.replicate k (Value.int .i64 0)) 0 [.int .i64 v] = I (repC v k 1) := by
  have := rep_over (v := v) (k := k) (n := 0) (m := 1) (by omega)
  rw [← this]; unfold repC; rw [I_app, I_repl, I_repl]; rfl
theorem rep_rd {w : World} {A : Option Addr} {v : Int} {k n m : Nat} (hm : m ≤ n) (h : Rd w A (I (repC v k n))) : Rd w A (I (List.replicate m v)) := by
  have h2 := h.take m
  have e : (I (repC v k n)).take m = I (List.replicate m v) := by
    unfold repC
    rw [I_app, I_repl, I_repl, I_repl, List.take_append_of_le_length (by simp; exact hm), List.take_replicate, Nat.min_eq_left hm]
  rw [e] at h2; exact h2
theorem I_one (l : List Int) : ∀ u ∈ I l, u.oneCell' = true := by
  intro u hu
  obtain ⟨x, _, rfl⟩ := List.mem_map.1 hu
  rfl
theorem cut_own {b k n : Nat} (h : ¬ k = n) : (if k = n then (some (Addr.mk b 0 none)) else (some (Addr.mk b 0 none)).map (·.add (n * 1))) = some ⟨b, n, none⟩ := by
  rw [if_neg h]; simp [add_plain]

/-! the price table, element by element -/
def prG (z : Int) (n : Nat) (ch : Rows2) (B : Pairs) (q i : Nat) : List Int := mkT (n * 2 ^ n) fun x => if q ≤ x / n ∨ (x / n + 1 = q ∧ x % n < i) then pay n ch B (x / n) (x % n) else z
@[simp] theorem prG_length {z : Int} {n : Nat} {ch : Rows2} {B : Pairs} {q i : Nat} : (prG z n ch B q i).length = n * 2 ^ n := mkT_length _ _
theorem prG_get {z : Int} {n : Nat} {ch : Rows2} {B : Pairs} {q i s j : Nat} (hj : j < n) (hs : s < 2 ^ n) (hq : q ≤ s) : (prG z n ch B q i).getD (n * s + j) 0 = pay n ch B s j := by
  rw [prG, mkT_get (ix_lt hj hs), (ix_div hj).1, (ix_div hj).2, if_pos (.inl hq)]
theorem prG_set {z : Int} {n : Nat} {ch : Rows2} {B : Pairs} {i s : Nat} (hi : i < n) : (prG z n ch B (s + 1) i).set (n * s + i) (pay n ch B s i) = prG z n ch B (s + 1) (i + 1) := by
  unfold prG
  rw [mkT_set]
  refine mkT_congr fun x hx => ?_
  by_cases e : x = n * s + i
  · subst e; rw [if_pos rfl, (ix_div hi).1, (ix_div hi).2, if_pos (.inr ⟨rfl, by omega⟩)]
  · rw [if_neg e]
    have hd := Nat.div_add_mod x n
    by_cases h1 : s + 1 ≤ x / n
    · rw [if_pos (.inl h1), if_pos (.inl h1)]
    · by_cases h2 : x / n = s
      · have h3 : x % n ≠ i := fun hh => e (by rw [h2, hh] at hd; omega)
        by_cases h4 : x % n < i
        · rw [if_pos (.inr ⟨by omega, h4⟩), if_pos (.inr ⟨by omega, by omega⟩)]
        · rw [if_neg (by omega), if_neg (by omega)]
      · rw [if_neg (by omega), if_neg (by omega)]
theorem prG_skip {n : Nat} {ch : Rows2} {B : Pairs} {i s : Nat} (hi : i < n) (hs : s < 2 ^ n) (hb : s.testBit i = false) : prG (-1) n ch B (s + 1) i = prG (-1) n ch B (s + 1) (i + 1) := by
  rw [← prG_set hi, pay_eq hs, hb]
  unfold prG
  rw [mkT_set]
  refine mkT_congr fun x hx => ?_
  by_cases e : x = n * s + i
  · subst e; rw [if_pos rfl, (ix_div hi).1, (ix_div hi).2, if_neg (by omega)]; rfl
  · rw [if_neg e]
theorem prG_row {z : Int} {n : Nat} {ch : Rows2} {B : Pairs} {s : Nat} : prG z n ch B (s + 1) n = prG z n ch B s 0 := by
  refine mkT_congr fun x hx => ?_
  have h0 : 0 < n := by
    rcases Nat.eq_zero_or_pos n with h | h
    · subst h; simp at hx
    · exact h
  have hm := Nat.mod_lt x h0
  generalize x / n = a
  generalize x % n = b at hm
  have L : (s + 1 ≤ a ∨ a + 1 = s + 1 ∧ b < n) ↔ s ≤ a := by omega
  have R : (s ≤ a ∨ a + 1 = s ∧ b < 0) ↔ s ≤ a := by omega
  simp only [L, R]
theorem prG_start {z : Int} {n : Nat} {ch : Rows2} {B : Pairs} : prG z n ch B (2 ^ n) 0 = List.replicate (n * 2 ^ n) z := by
  rw [mkT_rep]
  refine mkT_congr fun x hx => ?_
  rw [if_neg]
  have : x / n < 2 ^ n := Nat.div_lt_of_lt_mul hx
  omega
theorem prG_end {n : Nat} {ch : Rows2} {B : Pairs} : prG (-1) n ch B 1 0 = priceT n ch B := by
  refine mkT_congr fun x hx => ?_
  by_cases h : 1 ≤ x / n
  · rw [if_pos (.inl h)]
  · have h0 : x / n = 0 := by generalize x / n = a at *; omega
    rw [if_neg (by rw [h0]; omega), h0, pay_eq (Nat.pow_pos (by decide))]
    rw [Nat.zero_testBit]; rfl
theorem prG_end0 {z : Int} {n : Nat} {ch : Rows2} {B : Pairs} : prG z n ch B 0 0 = priceT n ch B := mkT_congr fun x hx => by rw [if_pos (.inl (Nat.zero_le _))]
theorem fol0 (B : Pairs) (j : Nat) : decide (((needN B j : Nat) : Int) = 0) = fol B 0 j := by
  have e : fol B 0 j = decide (needN B j = 0) := by
    unfold fol
    rw [Nat.zero_testBit, Bool.not_false, Bool.true_and]
    rw [Bool.eq_iff_iff, decide_eq_true_eq, List.all_eq_true]
    constructor
    · intro h
      refine Nat.eq_of_testBit_eq fun k => ?_
      rw [needN_bit, Nat.zero_testBit]
      refine List.any_eq_false.2 fun b hb => ?_
      have := h b hb
      simp at this
      simp [this]
    · intro h b hb
      have := needN_bit B j b.1
      rw [h, Nat.zero_testBit] at this
      have := List.any_eq_false.1 this.symm b hb
      simp at this
      simp
      exact this
  rw [e]; exact decide_eq_decide.2 (by omega)
theorem mulcast (a b : Nat) : ((a : Int) * (b : Int)) = ((a * b : Nat) : Int) := by push_cast; rfl
theorem n2n {n : Nat} (h : n ≤ 10) : n * 2 ^ n ≤ 10240 := Nat.mul_le_mul h (pow1024 h)
def startV (n s : Nat) : Int := if s = 2 ^ n - 1 then 0 else far2
theorem startV_bd (n s : Nat) : 0 ≤ startV n s ∧ startV n s ≤ 1099511627776 := by
  have hfar : far2 = 1099511627776 := rfl
  unfold startV; split <;> omega
theorem pay_eq2 {n : Nat} {ch : Rows2} {be : Pairs} {s i : Nat} (hs : s < 2 ^ n) (hb : s.testBit i = true) : bestJ be (fun j => cst ch i j + pay n ch be (s ||| 2 ^ j) j) s (startV n s) (List.range n) = pay n ch be s i := by rw [pay_eq hs, if_pos hb]; rfl
theorem bestJ_yes {be : Pairs} {f : Nat → Int} {s j : Nat} {m : Int} (h : fol be s j = true) : bestJ be f s m (List.range (j + 1)) = min (bestJ be f s m (List.range j)) (f j) := by
  rw [bestJ_snoc (n := 0), if_pos h]
theorem bestJ_no {be : Pairs} {f : Nat → Int} {s j : Nat} {m : Int} (h : fol be s j = false) : bestJ be f s m (List.range (j + 1)) = bestJ be f s m (List.range j) := by
  rw [bestJ_snoc (n := 0), if_neg (by rw [h]; simp)]

theorem mul64_spec (w : World) (k : Nat) (hk : k < 2 ^ 32) : Calls Tryd.prog 125 #[.int .u64 1, .int .u64 k] w fun e w' => e = .returned (.tuple #[.int .u64 0, .int .u64 k]) ∧ St w [] w' := by
  have hs := shr32 hk
  have hm1 : bits2 .and .u64 1 4294967295 = 1 := mask32 (a := 1) (by decide)
  have hm0 : bits2 .and .u64 0 4294967295 = 0 := mask32 (a := 0) (by decide)
  have hk2 : (k : Int) < 4294967296 := by omega
  refine calls (args := [.int .u64 1, .int .u64 k]) Tryd.func125 rfl Tryd.ntmps125 (Nat.le_of_ble_eq_true rfl) (St.refl w) ?_
  refine J_seq ?_
  refine J_region ?_
  refine V_asg (.n _) rfl rfl ?_   -- 0.0
  refine V_asg (.n _) rfl rfl ?_   -- 0.1
  refine V_sub [(0, _), (1, _), (4, _), (5, _)] ⟨rfl, rfl, rfl, rfl, trivial⟩ ?_
  refine V_nil (.inl rfl) ?_
  refine E_then ?_
  refine J_seq ?_
  refine J_region ?_
  refine V_mov (.n _) rfl rfl ?_   -- 1.0
  refine V_and (r := 1) (.n _) rfl rfl hm1 rfl ?_   -- 1.1
  refine V_asg (.n _) rfl rfl ?_   -- 1.2
  refine V_sub [(0, _), (1, _), (4, _), (5, _), (6, _)] ⟨rfl, rfl, rfl, rfl, rfl, trivial⟩ ?_
  refine V_nil (.inl rfl) ?_
  refine E_then ?_
  refine J_seq ?_
  refine J_region ?_
  refine V_mov (.n _) rfl rfl ?_   -- 2.0
  refine V_shr (.n _) rfl rfl (by decide) (by decide) rfl ?_   -- 2.1
  rw [show (1 : Int) / 2 ^ (32 : Int).toNat = 0 by decide]
  refine V_asg (.n _) rfl rfl ?_   -- 2.2
  refine V_sub [(0, _), (1, _), (4, _), (5, _), (6, _), (7, _)] ⟨rfl, rfl, rfl, rfl, rfl, rfl, trivial⟩ ?_
  refine V_nil (.inl rfl) ?_
  refine E_then ?_
  refine J_seq ?_
  refine J_region ?_
  refine V_mov (.n _) rfl rfl ?_   -- 3.0
  refine V_and (r := k) (.n _) rfl rfl (mask32 hk) rfl ?_   -- 3.1
  refine V_asg (.n _) rfl rfl ?_   -- 3.2
  refine V_sub [(0, _), (1, _), (4, _), (5, _), (6, _), (7, _), (8, _)] ⟨rfl, rfl, rfl, rfl, rfl, rfl, rfl, trivial⟩ ?_
  refine V_nil (.inl rfl) ?_
  refine E_then ?_
  refine J_seq ?_
  refine J_region ?_
  refine V_mov (.n _) rfl rfl ?_   -- 4.0
  refine V_shr (.n _) rfl rfl (by decide) (by decide) rfl ?_   -- 4.1
  rw [hs]
  refine V_asg (.n _) rfl rfl ?_   -- 4.2
  refine V_sub [(0, _), (1, _), (4, _), (5, _), (6, _), (7, _), (8, _), (9, _)] ⟨rfl, rfl, rfl, rfl, rfl, rfl, rfl, rfl, trivial⟩ ?_
  refine V_nil (.inl rfl) ?_
  refine E_then ?_
  refine J_seq ?_
  refine J_region ?_
  refine V_mov (.n _) rfl rfl ?_   -- 5.0
  refine V_mov (.n _) rfl rfl ?_   -- 5.1
  refine V_mul (.n _) rfl rfl (wrapU (by omega)) rfl ?_   -- 5.2
  rw [Int.one_mul]
  refine V_asg (.n _) rfl rfl ?_   -- 5.3
  refine V_sub [(0, _), (1, _), (4, _), (5, _), (6, _), (7, _), (8, _), (9, _), (10, _)] ⟨rfl, rfl, rfl, rfl, rfl, rfl, rfl, rfl, rfl, trivial⟩ ?_
  refine V_nil (.inl rfl) ?_
  refine E_then ?_
  refine J_seq ?_
  refine J_region ?_
  refine V_mov (.n _) rfl rfl ?_   -- 6.0
  refine V_mov (.n _) rfl rfl ?_   -- 6.1
  refine V_mul (.n _) rfl rfl (wrapU (by omega)) rfl ?_   -- 6.2
  rw [Int.zero_mul]
  refine V_mov (.n _) rfl rfl ?_   -- 6.3
  refine V_shr (.n _) rfl rfl (by decide) (by decide) rfl ?_   -- 6.4
  rw [hs]
  refine V_add (.n _) rfl rfl (wrapU (by decide)) rfl ?_   -- 6.5
  rw [show (0 : Int) + 0 = 0 by decide]
  refine V_asg (.n _) rfl rfl ?_   -- 6.6
  refine V_sub [(0, _), (1, _), (4, _), (5, _), (6, _), (7, _), (8, _), (9, _), (10, _), (11, _)] ⟨rfl, rfl, rfl, rfl, rfl, rfl, rfl, rfl, rfl, rfl, trivial⟩ ?_
  refine V_nil (.inl rfl) ?_
  refine E_then ?_
  refine J_seq ?_
  refine J_region ?_
  refine V_mov (.n _) rfl rfl ?_   -- 7.0
  refine V_and (r := 0) (.n _) rfl rfl hm0 rfl ?_   -- 7.1
  refine V_asg (.n _) rfl rfl ?_   -- 7.2
  refine V_sub [(0, _), (1, _), (4, _), (5, _), (6, _), (7, _), (8, _), (9, _), (10, _), (11, _), (12, _)] ⟨rfl, rfl, rfl, rfl, rfl, rfl, rfl, rfl, rfl, rfl, rfl, trivial⟩ ?_
  refine V_nil (.inl rfl) ?_
  refine E_then ?_
  refine J_seq ?_
  refine J_region ?_
  refine V_mov (.n _) rfl rfl ?_   -- 8.0
  refine V_shr (.n _) rfl rfl (by decide) (by decide) rfl ?_   -- 8.1
  rw [show (0 : Int) / 2 ^ (32 : Int).toNat = 0 by decide]
  refine V_asg (.n _) rfl rfl ?_   -- 8.2
  refine V_sub [(0, _), (1, _), (4, _), (5, _), (6, _), (7, _), (8, _), (9, _), (10, _), (11, _), (12, _), (13, _)] ⟨rfl, rfl, rfl, rfl, rfl, rfl, rfl, rfl, rfl, rfl, rfl, rfl, trivial⟩ ?_
  refine V_nil (.inl rfl) ?_
  refine E_then ?_
  refine J_seq ?_
  refine J_region ?_
  refine V_mov (.n _) rfl rfl ?_   -- 9.0
  refine V_mov (.n _) rfl rfl ?_   -- 9.1
  refine V_mov (.n _) rfl rfl ?_   -- 9.2
  refine V_mul (.n _) rfl rfl (wrapU (by decide)) rfl ?_   -- 9.3
  rw [show (1 : Int) * 0 = 0 by decide]
  refine V_add (.n _) rfl rfl (wrapU (by decide)) rfl ?_   -- 9.4
  rw [show (0 : Int) + 0 = 0 by decide]
  refine V_asg (.n _) rfl rfl ?_   -- 9.5
  refine V_sub [(0, _), (1, _), (4, _), (5, _), (6, _), (7, _), (8, _), (9, _), (10, _), (11, _), (12, _), (13, _)] ⟨rfl, rfl, rfl, rfl, rfl, rfl, rfl, rfl, rfl, rfl, rfl, rfl, trivial⟩ ?_
  refine V_nil (.inl rfl) ?_
  refine E_then ?_
  refine J_seq ?_
  refine J_region ?_
  refine V_mov (.n _) rfl rfl ?_   -- 10.0
  refine V_mov (.n _) rfl rfl ?_   -- 10.1
  refine V_mul (.n _) rfl rfl (wrapU (by decide)) rfl ?_   -- 10.2
  rw [show (0 : Int) * 0 = 0 by decide]
  refine V_mov (.n _) rfl rfl ?_   -- 10.3
  refine V_add (.n _) rfl rfl (wrapU (by decide)) rfl ?_   -- 10.4
  rw [show (0 : Int) + 0 = 0 by decide]
  refine V_mov (.n _) rfl rfl ?_   -- 10.5
  refine V_shr (.n _) rfl rfl (by decide) (by decide) rfl ?_   -- 10.6
  rw [show (0 : Int) / 2 ^ (32 : Int).toNat = 0 by decide]
  refine V_add (.n _) rfl rfl (wrapU (by decide)) rfl ?_   -- 10.7
  rw [show (0 : Int) + 0 = 0 by decide]
  refine V_asg (.n _) rfl rfl ?_   -- 10.8
  refine V_sub [(0, _), (1, _), (4, _), (5, _), (6, _), (7, _), (8, _), (9, _), (10, _), (11, _), (12, _), (13, _)] ⟨rfl, rfl, rfl, rfl, rfl, rfl, rfl, rfl, rfl, rfl, rfl, rfl, trivial⟩ ?_
  refine V_nil (.inl rfl) ?_
  refine E_then ?_
  refine J_seq ?_
  refine J_region ?_
  refine V_mov (.n _) rfl rfl ?_   -- 11.0
  refine V_mov (.n _) rfl rfl ?_   -- 11.1
  refine V_mul (.n _) rfl rfl (wrapU (by omega)) rfl ?_   -- 11.2
  rw [Int.one_mul]
  refine V_asg (.n _) rfl rfl ?_   -- 11.3
  refine V_sub [(0, _), (1, _), (4, _), (5, _), (6, _), (7, _), (8, _), (9, _), (10, _), (11, _), (12, _), (13, _)] ⟨rfl, rfl, rfl, rfl, rfl, rfl, rfl, rfl, rfl, rfl, rfl, rfl, trivial⟩ ?_
  refine V_nil (.inl rfl) ?_
  refine E_then ?_
  refine J_ret ?_
  -- return R0
  refine E_ret2 Tryd.results125 rfl rfl (fun w hw => ?_)
  exact ⟨rfl, hw⟩

theorem mul_spec (w : World) (k : Nat) (hk : k < 2 ^ 32) : Calls Tryd.prog 112 #[.int .u64 1, .int .u64 k] w fun e w' => e = .returned (.tuple #[.int .u64 0, .int .u64 k]) ∧ St w [] w' := by
  refine calls (args := [.int .u64 1, .int .u64 k]) Tryd.func112 rfl Tryd.ntmps112 (Nat.le_of_ble_eq_true rfl) (St.refl w) ?_
  refine J_seq ?_
  refine J_region ?_
  refine V_asg (.n _) rfl rfl ?_   -- 0.0
  refine V_asg (.n _) rfl rfl ?_   -- 0.1
  refine V_sub [(0, _), (1, _), (4, _), (5, _)] ⟨rfl, rfl, rfl, rfl, trivial⟩ ?_
  refine V_nil (.inl rfl) ?_
  refine E_then ?_
  refine J_seq ?_
  refine J_condF rfl ?_
  refine J_skip ?_
  refine E_then ?_
  refine J_seq ?_
  refine J_region ?_
  refine V_mov (.n _) rfl rfl ?_   -- 3.0
  refine V_mov (.n _) rfl rfl ?_   -- 3.1
  refine V_call0 (.n _) Tryd.call125 (.cons rfl (.cons rfl .nil)) (fun w1 hw1 => mul64_spec w1 k hk) rfl trivial ?_   -- 3.2
  refine V_mov (.n _) rfl rfl ?_   -- 3.3
  refine V_ext (.n _) rfl rfl rfl ?_   -- 3.4
  refine V_ext (.n _) rfl rfl rfl ?_   -- 3.5
  refine V_asg (.n _) rfl rfl ?_   -- 3.6
  refine V_asg (.n _) rfl rfl ?_   -- 3.7
  refine V_sub [(0, _), (1, _), (4, _), (5, _), (8, _), (9, _)] ⟨rfl, rfl, rfl, rfl, rfl, rfl, trivial⟩ ?_
  refine V_nil (.inl rfl) ?_
  refine E_then ?_
  refine J_seq ?_
  refine J_region ?_
  refine V_mov (.n _) rfl rfl ?_   -- 4.0
  refine V_mov (.n _) rfl rfl ?_   -- 4.1
  refine V_asg (.n _) rfl rfl ?_   -- 4.2
  refine V_asg (.n _) rfl rfl ?_   -- 4.3
  refine V_sub [(0, _), (1, _), (4, _), (5, _), (8, _), (9, _)] ⟨rfl, rfl, rfl, rfl, rfl, rfl, trivial⟩ ?_
  refine V_nil (.inl rfl) ?_
  refine E_then ?_
  refine J_ret ?_
  -- return R0
  refine E_ret2 Tryd.results112 rfl rfl (fun w hw => ?_)
  exact ⟨rfl, hw⟩

theorem repeat_spec (w : World) (A : Option Addr) (c k : Nat) (v : Int) (hk1 : 1 ≤ k) (hk2 : k ≤ 16777216) (hr : Rd w A (I [v])) : Calls Tryd.prog 94 #[.slice A 1 c, .int .i64 k] w fun e w' => ∃ x D, e = .returned x ∧ St w D w' ∧ ∃ b, x = .slice (some ⟨b, 0, none⟩) k k ∧ D = [.c b 3 (I (List.replicate k v))] := by
  refine calls (args := [.slice A 1 c, .int .i64 k]) Tryd.func94 rfl Tryd.ntmps94 (Nat.le_of_ble_eq_true rfl) (St.refl w) ?_
  refine J_seq ?_
  refine J_region ?_
  refine V_asg (.n _) rfl rfl ?_   -- 0.0
  refine V_sub [(0, _), (1, _), (4, _)] ⟨rfl, rfl, rfl, trivial⟩ ?_
  refine V_nil (.inl rfl) ?_
  refine E_then ?_
  refine J_seq ?_
  refine J_seq ?_
  refine J_region ?_
  refine V_mov (.n _) rfl rfl ?_   -- 1.0
  refine V_lss (.n _) rfl rfl rfl ?_   -- 1.1
  refine V_sub [(0, _), (1, _), (4, _), (10, _)] ⟨rfl, rfl, rfl, rfl, trivial⟩ ?_
  refine V_nil (.inl rfl) ?_
  refine E_then ?_
  refine J_cond rfl (fun h1 => ?_) (fun h1 => ?_)   -- C0
  · exact absurd h1 (by omega)
  · skip
    refine J_skip ?_
    refine E_then ?_
    refine J_seq ?_
    refine J_region ?_
    refine V_mov (.n _) rfl rfl ?_   -- 3.0
    refine V_len (.n _) Tryd.underlying34 rfl rfl ?_   -- 3.1
    refine V_cvi (.n _) Tryd.underlying3 Tryd.underlying71 rfl (wrapU (by omega)) rfl ?_   -- 3.2
    refine V_mov (.n _) rfl rfl ?_   -- 3.3
    refine V_cvi (.n _) Tryd.underlying3 Tryd.underlying71 rfl (wrapU (by omega)) rfl ?_   -- 3.4
    refine V_call0 (.n _) Tryd.call112 (.cons rfl (.cons rfl .nil)) (fun w1 hw1 => mul_spec w1 k (by omega)) rfl trivial ?_   -- 3.5
    refine V_mov (.n _) rfl rfl ?_   -- 3.6
    refine V_ext (.n _) rfl rfl rfl ?_   -- 3.7
    refine V_ext (.n _) rfl rfl rfl ?_   -- 3.8
    refine V_asg (.n _) rfl rfl ?_   -- 3.9
    refine V_asg (.n _) rfl rfl ?_   -- 3.10
    refine V_sub [(0, _), (1, _), (4, _), (5, _), (6, _), (10, _)] ⟨rfl, rfl, rfl, rfl, rfl, rfl, trivial⟩ ?_
    refine V_nil (.inl rfl) ?_
    refine E_then ?_
    refine J_seq ?_
    refine J_seq ?_
    refine J_region ?_
    refine V_mov (.n _) rfl rfl ?_   -- 4.0
    refine V_gtr (.n _) rfl rfl rfl ?_   -- 4.1
    refine V_mov (.n _) rfl rfl ?_   -- 4.2
    refine V_go (2, false) rfl ?_
    refine V_mov (.n _) rfl rfl ?_   -- 4.3
    refine V_go (2, false) rfl ?_
    refine V_gtr (.n _) rfl rfl rfl ?_   -- 4.4
    refine V_pickF (.n _) rfl rfl rfl ?_   -- 4.5
    refine V_sub [(0, _), (1, _), (4, _), (5, _), (6, _), (10, _), (26, _)] ⟨rfl, rfl, rfl, rfl, rfl, rfl, rfl, trivial⟩ ?_
    refine V_nil (.inl rfl) ?_
    refine E_then ?_
    refine J_cond rfl (fun h2 => ?_) (fun h2 => ?_)   -- C1
    · exact absurd h2 (by omega)
    · skip
      refine J_skip ?_
      refine E_then ?_
      refine J_seq ?_
      refine J_region ?_
      refine V_mov (.n _) rfl rfl ?_   -- 6.0
      refine V_cvi (.n _) Tryd.underlying71 Tryd.underlying3 rfl (wrap_ok (by omega)) rfl ?_   -- 6.1
      refine V_make1 (.n _) Tryd.underlying34 Tryd.typeInfo3 rfl rfl rfl rfl rfl rfl (by omega) rfl (fun _ => trivial) (fun b30 => ?_)   -- 6.2
      refine V_asg (.n _) rfl rfl ?_   -- 6.3
      refine V_sub [(0, _), (1, _), (4, _), (5, _), (6, _), (7, _), (10, _), (26, _)] ⟨rfl, rfl, rfl, rfl, rfl, rfl, rfl, rfl, trivial⟩ ?_
      refine V_nil (.inl rfl) ?_
      refine E_then ?_
      refine J_seq ?_
      refine J_region ?_
      refine V_mov (.n _) rfl rfl ?_   -- 7.0
      refine V_mov (.n _) rfl rfl ?_   -- 7.1
      refine V_copy (ms := I [v]) (cs' := I (repC v k 1)) (.n _) Tryd.underlying34 Tryd.sizeOf3 rfl rfl (by repeat (first | exact SetAt.z | apply SetAt.s)) (fun w1 hw1 => hr.keep hw1) (by simp; omega) (I_one _) (by simp; omega) (rep_first hk1) rfl ?_   -- 7.2
      rw [show min 1 k = 1 by omega]
      refine V_asg (.n _) rfl rfl ?_   -- 7.3
      refine V_sub [(0, _), (1, _), (4, _), (5, _), (6, _), (7, _), (8, _), (10, _), (26, _)] ⟨rfl, rfl, rfl, rfl, rfl, rfl, rfl, rfl, rfl, trivial⟩ ?_
      refine V_nil (.inl rfl) ?_
      refine E_then ?_
      refine J_seq ?_
      refine J_block ?_
      -- loop L0
      refine J_loop (X := Nat) (fun n => [(0, (.slice A 1 c)), (1, (.int .i64 k)), (4, (.slice none 0 0)), (7, (.slice (some ⟨b30, 0, none⟩) k k)), (8, .int .i64 (n : Nat))]) (fun n => [.c b30 3 (I (repC v k n))]) (fun n => 1 ≤ n ∧ n ≤ k) (fun n => k - n) (1) (by refine ⟨?_, ?_, ?_, ?_, ?_, trivial⟩ <;> first | rfl | exact int_eq (by omega)) (fun w h => h) ?_ ?_
      · exact ⟨by omega, by omega⟩
      · rintro n ⟨hn1, hn2⟩
        refine J_seq ?_
        refine J_seq ?_
        refine J_region ?_
        refine V_mov (.n _) rfl rfl ?_   -- 8.0
        refine V_mov (.n _) rfl rfl ?_   -- 8.1
        refine V_len (.n _) Tryd.underlying34 rfl rfl ?_   -- 8.2
        refine V_lss (.n _) rfl rfl rfl ?_   -- 8.3
        refine V_sub [(0, _), (1, _), (4, _), (7, _), (8, _), (37, _)] ⟨rfl, rfl, rfl, rfl, rfl, rfl, trivial⟩ ?_
        refine V_nil (.inl rfl) ?_
        refine E_then ?_
        refine J_cond rfl (fun h3 => ?_) (fun h3 => ?_)   -- C2
        · skip
          refine J_skip ?_
          refine E_then ?_
          refine J_block ?_
          refine J_draw (Gs := _) (cl := [.p, .p, .p, .p, .p, .p, .p, .w, .p, .p]) (by kernel_rfl) (fun _ _ h => h) ?_
          refine V_mov (.s _ _ _) rfl rfl ?_   -- 9.0
          refine V_mov (.s _ _ _) rfl rfl ?_   -- 9.1
          refine V_mov (.s _ _ _) rfl rfl ?_   -- 9.2
          refine V_slcL (.s _ _ _) Tryd.underlying34 Tryd.sizeOf3 rfl rfl (by omega) (by omega) (Nat.le_refl _) rfl ?_   -- 9.3
          rw [show ((n : Nat) : Int).toNat = n by simp]
          rw [cut_own (by omega)]
          refine V_mov (.s _ _ _) rfl rfl ?_   -- 9.4
          refine V_mov (.s _ _ _) rfl rfl ?_   -- 9.5
          refine V_slcH (.s _ _ _) Tryd.underlying34 Tryd.sizeOf3 rfl rfl (by omega) (by omega) (Nat.le_refl _) rfl ?_   -- 9.6
          rw [show ((n : Nat) : Int).toNat = n by simp]
          refine V_copy (ms := I (List.replicate (min n (k - n)) v)) (cs' := I (repC v k (n + min n (k - n)))) (.s _ _ _) Tryd.underlying34 Tryd.sizeOf3 rfl rfl (by repeat (first | exact SetAt.z | apply SetAt.s)) (fun w1 hw1 => rep_rd (by omega) (Rd.own hw1 (t := 3) (List.Mem.head _))) (by simp) (I_one _) (by simp [repC_length (show n ≤ k by omega)]; omega) (rep_over (by omega)) rfl ?_   -- 9.7
          refine V_add (.s _ _ _) rfl rfl (wrap_ok (by omega)) rfl ?_   -- 9.8
          refine V_asg (.s _ _ _) rfl rfl ?_   -- 9.9
          refine V_sub [(0, _), (1, _), (4, _), (7, _), (8, _), (37, _)] ⟨rfl, rfl, rfl, rfl, rfl, rfl, trivial⟩ ?_
          refine V_nil (.inr ⟨_, rfl⟩) ?_
          refine E_blk ?_
          -- again L0 0
          refine E_again (n + min n (k - n)) ?_ ?_ ?_ (fun w h => h)
          · omega
          · exact ⟨by omega, by omega⟩
          · refine ⟨?_, ?_, ?_, ?_, ?_, trivial⟩ <;> first | rfl | exact int_eq (by omega) | exact int_eq (by dsimp only; omega)
        · skip
          refine J_exit ?_
          refine E_then_exit ?_
          refine E_lp_exit ?_
          refine E_blk_hit ?_
          refine E_then ?_
          refine J_seq ?_
          refine J_region ?_
          refine V_mov (.n _) rfl rfl ?_   -- 10.0
          refine V_asg (.n _) rfl rfl ?_   -- 10.1
          refine V_sub [(0, _), (1, _), (4, _), (7, _), (8, _), (37, _)] ⟨rfl, rfl, rfl, rfl, rfl, rfl, trivial⟩ ?_
          refine V_nil (.inl rfl) ?_
          refine E_then ?_
          refine J_ret ?_
          -- return R0
          refine E_ret1 Tryd.results94 rfl (fun w hw => ?_)
          obtain rfl : n = k := by omega
          rw [show repC v n n = List.replicate n v by simp [repC]] at hw
          exact ⟨_, _, rfl, hw, b30, rfl, rfl⟩

theorem prices_spec (w : World) (A1 A2 A3 : Option Addr) (c1 c2 c3 : Nat) (vs : List Value) (st : List Int) (ch : Rows2) (be : List (Int × Int)) (hl1 : st.length ≤ 140737488351232) (hl2 : ch.length ≤ 140737488351232) (hl3 : be.length ≤ 140737488351232) (hp : PR w A1 A2 A3 vs st ch be) (hv : VP st ch be) : Calls Tryd.prog 76 #[.agg #[.slice A1 st.length c1, .slice A2 ch.length c2, .slice A3 be.length c3]] w fun e w' => ∃ v D, e = .returned v ∧ St w D w' ∧ ∃ b, v = .slice (some ⟨b, 0, none⟩) (st.length * 2 ^ st.length) (st.length * 2 ^ st.length) ∧ D = [.c b 3 (I (priceT st.length ch (natB be)))] := by
  have hn10 := hv.n10
  have hn01 := hv.n1
  have hp1 := pow1024 hn10
  have hN := n2n hn10
  have hp0 := Nat.pow_pos (n := st.length) (show 0 < 2 by decide)
  have hchl := hv.chl
  have hfar : far2 = 1099511627776 := rfl
  refine calls (args := [.agg #[.slice A1 st.length c1, .slice A2 ch.length c2, .slice A3 be.length c3]]) Tryd.func76 rfl Tryd.ntmps76 (Nat.le_of_ble_eq_true rfl) (St.refl w) ?_
  refine J_seq ?_
  refine J_region ?_
  refine V_box (.n _) rfl rfl rfl (fun _ => trivial) (fun b1 => ?_)   -- 0.0
  refine V_asg (.n _) rfl rfl ?_   -- 0.1
  refine V_sub [(0, _), (1, _), (2, _)] ⟨rfl, rfl, rfl, trivial⟩ ?_
  refine V_nil (.inl rfl) ?_
  refine E_then ?_
  refine J_seq ?_
  refine J_draw (Gs := _) (cl := [.p, .r, .p, .r, .e, .p, .p]) (by kernel_rfl) (fun _ _ h => h) ?_
  first | refine V_fa0 (.s _ _ _) fo51_0 rfl rfl ?_ | refine V_faz (.s _ _ _) fo51_0 rfl rfl ?_ | refine V_fa (.s _ _ _) fo51_0 rfl rfl ?_   -- 1.0
  refine V_ld (.s _ _ _) Tryd.isAgg34 rfl (by repeat (first | exact List.Mem.head _ | assumption | apply List.Mem.tail)) (by rfl) rfl ?_   -- 1.1
  refine V_len (.s _ _ _) Tryd.underlying34 rfl rfl ?_   -- 1.2
  refine V_ldN (.s _ _ _) Tryd.isAgg51 Tryd.sizeOf51 rfl (by repeat (first | exact List.Mem.head _ | assumption | apply List.Mem.tail)) (by rfl) rfl rfl ?_   -- 1.3
  refine V_call (post := fun v D => ∃ b, v = .slice (some ⟨b, 0, none⟩) st.length st.length ∧ D = [.c b 3 (I (needT st.length (natB be)))]) (.s _ _ _) Tryd.call75 (.cons rfl .nil) (fun w1 hw1 => needs_spec w1 A1 A2 A3 c1 c2 c3 vs st ch be hl1 hl2 hl3 (hp.keep hw1) hv) rfl (fun _ _ h => h.sublist (by simp)) ?_
  rintro v D ⟨bN, rfl, rfl⟩
  refine V_asg (.s _ _ _) rfl rfl ?_   -- 1.5
  refine V_asg (.s _ _ _) rfl rfl ?_   -- 1.6
  refine V_sub [(0, _), (1, _), (2, _), (3, _), (4, _)] ⟨rfl, rfl, rfl, rfl, rfl, trivial⟩ ?_
  refine V_nil (.inr ⟨_, rfl⟩) ?_
  refine E_then ?_
  refine J_seq ?_
  refine J_region ?_
  refine V_lit (.n _) Tryd.underlying34 Tryd.sizeOf3 Tryd.zeroValue3 (.cons rfl rfl rfl .nil) rfl rfl rfl (fun _ => trivial) (fun b15 => ?_)   -- 2.0
  skip
  refine V_mov (.n _) rfl rfl ?_   -- 2.1
  refine V_mov (.n _) rfl rfl ?_   -- 2.2
  refine V_shl (.n _) rfl rfl (by omega) (by simp [IntKind.bits]; omega) (by rw [shl_natk]; exact wrap_nat (by omega)) rfl ?_   -- 2.3
  rw [shl_natk]
  refine V_call (post := fun x D => ∃ b, x = .slice (some ⟨b, 0, none⟩) (st.length * 2 ^ st.length) (st.length * 2 ^ st.length) ∧ D = [.c b 3 (I (List.replicate (st.length * 2 ^ st.length) (-1)))]) (.n _) Tryd.call94 (.cons rfl (.cons rfl .nil)) (fun w1 hw1 => repeat_spec w1 (some ⟨b15, 0, none⟩) 1 _ (-1) (by have := Nat.mul_le_mul hn01 hp0; omega) (by omega) (Rd.own hw1 (t := 3) (List.Mem.head _))) rfl trivial ?_
  rintro _ D ⟨bT, rfl, rfl⟩
  refine V_asg (.n _) rfl rfl ?_   -- 2.5
  refine V_sub [(0, _), (1, _), (2, _), (3, _), (4, _), (5, _)] ⟨rfl, rfl, rfl, rfl, rfl, rfl, trivial⟩ ?_
  refine V_nil (.inl rfl) ?_
  refine E_then ?_
  refine J_seq ?_
  refine J_seq ?_
  refine J_region ?_
  refine V_mov (.n _) rfl rfl ?_   -- 3.0
  refine V_shl (.n _) rfl rfl (by omega) (by simp [IntKind.bits]; omega) (by rw [shl_nat]; exact wrap_nat (by omega)) rfl ?_   -- 3.1
  rw [shl_nat]
  refine V_sub1 (.n _) rfl rfl (wrap_ok (by omega)) rfl ?_   -- 3.2
  refine V_asg (.n _) rfl rfl ?_   -- 3.3
  refine V_sub [(0, _), (1, _), (2, _), (3, _), (4, _), (5, _), (6, _)] ⟨rfl, rfl, rfl, rfl, rfl, rfl, rfl, trivial⟩ ?_
  refine V_nil (.inl rfl) ?_
  refine E_then ?_
  refine J_block ?_
  -- loop L0
  refine J_loop (X := Nat) (fun q => [(0, (.agg #[.slice A1 st.length c1, .slice A2 ch.length c2, .slice A3 be.length c3])), (1, (.pointer (some ⟨b1, 0, none⟩))), (2, (.slice none 0 0)), (3, (.int .i64 (st.length : Nat))), (4, (.slice (some ⟨bN, 0, none⟩) st.length st.length)), (5, (.slice (some ⟨bT, 0, none⟩) (st.length * 2 ^ st.length) (st.length * 2 ^ st.length))), (6, .int .i64 ((q : Nat) - 1 : Int))]) (fun q => [.c bT 3 (I (prG (-1) st.length ch (natB be) q 0)), .c b15 3 (I [-1]), .c bN 3 (I (needT st.length (natB be))), .c b1 51 [.slice A1 st.length c1, .slice A2 ch.length c2, .slice A3 be.length c3]]) (fun q => 1 ≤ q ∧ q ≤ 2 ^ st.length) (fun q => q) (2 ^ st.length) (by refine ⟨?_, ?_, ?_, ?_, ?_, ?_, ?_, trivial⟩ <;> first | rfl | exact int_eq (by omega)) (fun w h => by rw [prG_start]; exact h) ?_ ?_
  · exact ⟨by omega, Nat.le_refl _⟩
  · rintro q ⟨hq1, hq2⟩
    refine J_seq ?_
    refine J_seq ?_
    refine J_region ?_
    refine V_mov (.n _) rfl rfl ?_   -- 4.0
    refine V_gtr (.n _) rfl rfl rfl ?_   -- 4.1
    refine V_sub [(0, _), (1, _), (2, _), (3, _), (4, _), (5, _), (6, _), (24, _)] ⟨rfl, rfl, rfl, rfl, rfl, rfl, rfl, rfl, trivial⟩ ?_
    refine V_nil (.inl rfl) ?_
    refine E_then ?_
    refine J_cond rfl (fun h1 => ?_) (fun h1 => ?_)   -- C0
    · obtain ⟨s, rfl⟩ : ∃ s, q = s + 1 := ⟨q - 1, by omega⟩
      rw [show (((s + 1 : Nat) : Int) - 1) = (s : Int) by omega]
      refine J_skip ?_
      refine E_then ?_
      refine J_seq ?_
      refine J_block ?_
      refine J_seq ?_
      refine J_region ?_
      refine V_mov (.n _) rfl rfl ?_   -- 6.0
      refine V_mov (.n _) rfl rfl ?_   -- 6.1
      refine V_sub [(0, _), (1, _), (2, _), (3, _), (4, _), (5, _), (6, _), (24, _), (27, _), (28, _)] ⟨rfl, rfl, rfl, rfl, rfl, rfl, rfl, rfl, rfl, rfl, trivial⟩ ?_
      refine V_nil (.inl rfl) ?_
      refine E_then ?_
      refine J_block ?_
      -- loop L1
      refine J_loop (X := Nat) (fun i => [(0, (.agg #[.slice A1 st.length c1, .slice A2 ch.length c2, .slice A3 be.length c3])), (1, (.pointer (some ⟨b1, 0, none⟩))), (2, (.slice none 0 0)), (3, (.int .i64 (st.length : Nat))), (4, (.slice (some ⟨bN, 0, none⟩) st.length st.length)), (5, (.slice (some ⟨bT, 0, none⟩) (st.length * 2 ^ st.length) (st.length * 2 ^ st.length))), (6, .int .i64 (s : Nat)), (27, (.int .i64 (st.length : Nat))), (28, .int .i64 (i : Nat))]) (fun i => [.c bT 3 (I (prG (-1) st.length ch (natB be) (s + 1) i)), .c b15 3 (I [-1]), .c bN 3 (I (needT st.length (natB be))), .c b1 51 [.slice A1 st.length c1, .slice A2 ch.length c2, .slice A3 be.length c3]]) (fun i => i ≤ st.length) (fun i => st.length - i) (0) (by refine ⟨?_, ?_, ?_, ?_, ?_, ?_, ?_, ?_, ?_, trivial⟩ <;> first | rfl | exact int_eq (by omega)) (fun w h => h) ?_ ?_
      · omega
      · intro i hi
        refine J_seq ?_
        refine J_region ?_
        refine V_lss (.n _) rfl rfl rfl ?_   -- 7.0
        refine V_sub [(0, _), (1, _), (2, _), (3, _), (4, _), (5, _), (6, _), (27, _), (28, _), (29, _)] ⟨rfl, rfl, rfl, rfl, rfl, rfl, rfl, rfl, rfl, rfl, trivial⟩ ?_
        refine V_nil (.inl rfl) ?_
        refine E_then ?_
        refine J_seq ?_
        refine J_cond rfl (fun h2 => ?_) (fun h2 => ?_)   -- C1
        · skip
          refine J_skip ?_
          refine E_then ?_
          refine J_seq ?_
          refine J_block ?_
          refine J_seq ?_
          refine J_region ?_
          refine V_mov (.n _) rfl rfl ?_   -- 8.0
          refine V_asg (.n _) rfl rfl ?_   -- 8.1
          refine V_sub [(0, _), (1, _), (2, _), (3, _), (4, _), (5, _), (6, _), (7, _), (27, _), (28, _), (29, _)] ⟨rfl, rfl, rfl, rfl, rfl, rfl, rfl, rfl, rfl, rfl, rfl, trivial⟩ ?_
          refine V_nil (.inl rfl) ?_
          refine E_then ?_
          refine J_seq ?_
          refine J_seq ?_
          refine J_region ?_
          refine V_mov (.n _) rfl rfl ?_   -- 9.0
          refine V_mov (.n _) rfl rfl ?_   -- 9.1
          refine V_shr (.n _) rfl rfl (by omega) (by simp [IntKind.bits]; omega) rfl ?_   -- 9.2
          rw [shr_nat]
          refine V_and (r := if s.testBit i then 1 else 0) (.n _) rfl rfl (bit_of s i (by omega)) rfl ?_   -- 9.3
          refine V_eql (.n _) rfl rfl rfl ?_   -- 9.4
          rw [bit0]
          refine V_sub [(0, _), (1, _), (2, _), (3, _), (4, _), (5, _), (6, _), (7, _), (27, _), (28, _), (29, _), (35, _)] ⟨rfl, rfl, rfl, rfl, rfl, rfl, rfl, rfl, rfl, rfl, rfl, rfl, trivial⟩ ?_
          refine V_nil (.inl rfl) ?_
          refine E_then ?_
          refine J_condB rfl (fun h3 => ?_) (fun h3 => ?_)   -- C2
          · have hbit : s.testBit i = false := by simpa using h3
            refine J_exit ?_
            refine E_then_exit ?_
            refine E_blk_hit ?_
            refine E_then ?_
            refine J_region ?_
            refine V_add (.n _) rfl rfl (wrap_ok (by omega)) rfl ?_   -- 20.0
            refine V_mov (.n _) rfl rfl ?_   -- 20.1
            refine V_sub [(0, _), (1, _), (2, _), (3, _), (4, _), (5, _), (6, _), (7, _), (27, _), (28, _), (29, _), (35, _)] ⟨rfl, rfl, rfl, rfl, rfl, rfl, rfl, rfl, rfl, rfl, rfl, rfl, trivial⟩ ?_
            refine V_nil (.inl rfl) ?_
            -- again L1 0
            rw [prG_skip (show i < st.length by omega) (by omega) hbit]
            refine E_again (i + 1) ?_ ?_ ?_ (fun w h => h)
            · omega
            · omega
            · refine ⟨?_, ?_, ?_, ?_, ?_, ?_, ?_, ?_, ?_, trivial⟩ <;> first | rfl | exact int_eq (by omega) | exact int_eq (by dsimp only; omega)
          · have hbit : s.testBit i = true := by simpa using h3
            refine J_skip ?_
            refine E_then ?_
            refine J_seq ?_
            refine J_region ?_
            refine V_asg (.n _) rfl rfl ?_   -- 10.0
            refine V_sub [(0, _), (1, _), (2, _), (3, _), (4, _), (5, _), (6, _), (7, _), (8, _), (27, _), (28, _), (29, _), (35, _)] ⟨rfl, rfl, rfl, rfl, rfl, rfl, rfl, rfl, rfl, rfl, rfl, rfl, rfl, trivial⟩ ?_
            refine V_nil (.inl rfl) ?_
            refine E_then ?_
            refine J_seq ?_
            refine J_seq ?_
            refine J_region ?_
            refine V_mov (.n _) rfl rfl ?_   -- 11.0
            refine V_mov (.n _) rfl rfl ?_   -- 11.1
            refine V_shl (.n _) rfl rfl (by omega) (by simp [IntKind.bits]; omega) (by rw [shl_nat]; exact wrap_nat (by omega)) rfl ?_   -- 11.2
            rw [shl_nat]
            refine V_sub1 (.n _) rfl rfl (wrap_ok (by omega)) rfl ?_   -- 11.3
            refine V_eql (.n _) rfl rfl rfl ?_   -- 11.4
            refine V_sub [(0, _), (1, _), (2, _), (3, _), (4, _), (5, _), (6, _), (7, _), (8, _), (27, _), (28, _), (29, _), (35, _), (40, _)] ⟨rfl, rfl, rfl, rfl, rfl, rfl, rfl, rfl, rfl, rfl, rfl, rfl, rfl, rfl, trivial⟩ ?_
            refine V_nil (.inl rfl) ?_
            refine E_then ?_
            -- join C3
            refine J_cut (X := Unit) (fun _ => [(0, (.agg #[.slice A1 st.length c1, .slice A2 ch.length c2, .slice A3 be.length c3])), (1, (.pointer (some ⟨b1, 0, none⟩))), (2, (.slice none 0 0)), (3, (.int .i64 (st.length : Nat))), (4, (.slice (some ⟨bN, 0, none⟩) st.length st.length)), (5, (.slice (some ⟨bT, 0, none⟩) (st.length * 2 ^ st.length) (st.length * 2 ^ st.length))), (6, .int .i64 (s : Nat)), (7, .int .i64 (i : Nat)), (8, .int .i64 (startV st.length s)), (27, (.int .i64 (st.length : Nat))), (28, .int .i64 (i : Nat))]) (fun _ => [.c bT 3 (I (prG (-1) st.length ch (natB be) (s + 1) i)), .c b15 3 (I [-1]), .c bN 3 (I (needT st.length (natB be))), .c b1 51 [.slice A1 st.length c1, .slice A2 ch.length c2, .slice A3 be.length c3]]) (fun _ => True) ?_ ?_
            · skip
              refine J_cond rfl (fun h4 => ?_) (fun h4 => ?_)   -- C3
              · skip
                refine J_region ?_
                refine V_asg (.n _) rfl rfl ?_   -- 12.0
                refine V_sub [(0, _), (1, _), (2, _), (3, _), (4, _), (5, _), (6, _), (7, _), (8, _), (27, _), (28, _), (29, _), (35, _), (40, _)] ⟨rfl, rfl, rfl, rfl, rfl, rfl, rfl, rfl, rfl, rfl, rfl, rfl, rfl, rfl, trivial⟩ ?_
                refine V_nil (.inl rfl) ?_
                -- again C3 0
                refine E_meet (()) ?_ ?_ (fun w h => h)
                · trivial
                · refine ⟨?_, ?_, ?_, ?_, ?_, ?_, ?_, ?_, ?_, ?_, ?_, trivial⟩ <;> first | rfl | exact int_eq (by rw [startV, if_pos (by omega)])
              · skip
                refine J_skip ?_
                -- again C3 1
                refine E_meet (()) ?_ ?_ (fun w h => h)
                · trivial
                · refine ⟨?_, ?_, ?_, ?_, ?_, ?_, ?_, ?_, ?_, ?_, ?_, trivial⟩ <;> first | rfl | exact int_eq (by rw [startV, if_neg (by omega)]; rfl)
            · rintro _ -
              refine E_then ?_
              refine J_seq ?_
              refine J_seq ?_
              refine J_region ?_
              refine V_mov (.n _) rfl rfl ?_   -- 13.0
              refine V_mov (.n _) rfl rfl ?_   -- 13.1
              refine V_sub [(0, _), (1, _), (2, _), (3, _), (4, _), (5, _), (6, _), (7, _), (8, _), (27, _), (28, _), (41, _), (42, _)] ⟨rfl, rfl, rfl, rfl, rfl, rfl, rfl, rfl, rfl, rfl, rfl, rfl, rfl, trivial⟩ ?_
              refine V_nil (.inl rfl) ?_
              refine E_then ?_
              refine J_block ?_
              -- loop L2
              refine J_loop (X := Nat) (fun j => [(0, (.agg #[.slice A1 st.length c1, .slice A2 ch.length c2, .slice A3 be.length c3])), (1, (.pointer (some ⟨b1, 0, none⟩))), (2, (.slice none 0 0)), (3, (.int .i64 (st.length : Nat))), (4, (.slice (some ⟨bN, 0, none⟩) st.length st.length)), (5, (.slice (some ⟨bT, 0, none⟩) (st.length * 2 ^ st.length) (st.length * 2 ^ st.length))), (6, .int .i64 (s : Nat)), (7, .int .i64 (i : Nat)), (8, .int .i64 (bestJ (natB be) (fun j => cst ch i j + pay st.length ch (natB be) (s ||| 2 ^ j) j) s (startV st.length s) (List.range j))), (27, (.int .i64 (st.length : Nat))), (28, .int .i64 (i : Nat)), (41, (.int .i64 (st.length : Nat))), (42, .int .i64 (j : Nat))]) (fun j => [.c bT 3 (I (prG (-1) st.length ch (natB be) (s + 1) i)), .c b15 3 (I [-1]), .c bN 3 (I (needT st.length (natB be))), .c b1 51 [.slice A1 st.length c1, .slice A2 ch.length c2, .slice A3 be.length c3]]) (fun j => j ≤ st.length) (fun j => st.length - j) (0) (by refine ⟨?_, ?_, ?_, ?_, ?_, ?_, ?_, ?_, ?_, ?_, ?_, ?_, ?_, trivial⟩ <;> first | rfl | exact int_eq (by omega)) (fun w h => h) ?_ ?_
              · omega
              · intro j hj
                have hbl := (bestJ_le (be := natB be) (f := (fun j => cst ch i j + pay st.length ch (natB be) (s ||| 2 ^ j) j)) (s := s) (List.range j) (startV st.length s)).1
                have hm0 := startV_bd st.length s
                refine J_seq ?_
                refine J_region ?_
                refine V_lss (.n _) rfl rfl rfl ?_   -- 14.0
                refine V_sub [(0, _), (1, _), (2, _), (3, _), (4, _), (5, _), (6, _), (7, _), (8, _), (27, _), (28, _), (41, _), (42, _), (43, _)] ⟨rfl, rfl, rfl, rfl, rfl, rfl, rfl, rfl, rfl, rfl, rfl, rfl, rfl, rfl, trivial⟩ ?_
                refine V_nil (.inl rfl) ?_
                refine E_then ?_
                refine J_seq ?_
                refine J_cond rfl (fun h5 => ?_) (fun h5 => ?_)   -- C4
                · skip
                  refine J_skip ?_
                  refine E_then ?_
                  refine J_seq ?_
                  refine J_block ?_
                  refine J_seq ?_
                  refine J_region ?_
                  refine V_mov (.n _) rfl rfl ?_   -- 15.0
                  refine V_asg (.n _) rfl rfl ?_   -- 15.1
                  refine V_sub [(0, _), (1, _), (2, _), (3, _), (4, _), (5, _), (6, _), (7, _), (8, _), (9, _), (27, _), (28, _), (41, _), (42, _), (43, _)] ⟨rfl, rfl, rfl, rfl, rfl, rfl, rfl, rfl, rfl, rfl, rfl, rfl, rfl, rfl, rfl, trivial⟩ ?_
                  refine V_nil (.inl rfl) ?_
                  refine E_then ?_
                  refine J_seq ?_
                  refine J_region ?_
                  refine V_mov (.n _) rfl rfl ?_   -- 16.0
                  refine V_mov (.n _) rfl rfl ?_   -- 16.1
                  refine V_mov (.n _) rfl rfl ?_   -- 16.2
                  refine V_call0 (.n _) Tryd.call78 (.cons rfl (.cons rfl (.cons rfl .nil))) (fun w1 hw1 => follows_spec w1 (some ⟨bN, 0, none⟩) st.length st.length s j (natB be) hn10 (by omega) (by omega) (hv.needF j) (Rd.own hw1 (t := 3) (by repeat (first | exact List.Mem.head _ | assumption | apply List.Mem.tail)))) rfl trivial ?_   -- 16.3
                  refine V_sub [(0, _), (1, _), (2, _), (3, _), (4, _), (5, _), (6, _), (7, _), (8, _), (9, _), (27, _), (28, _), (41, _), (42, _), (43, _), (48, _)] ⟨rfl, rfl, rfl, rfl, rfl, rfl, rfl, rfl, rfl, rfl, rfl, rfl, rfl, rfl, rfl, rfl, trivial⟩ ?_
                  refine V_nil (.inl rfl) ?_
                  refine E_then ?_
                  refine J_condB rfl (fun h6 => ?_) (fun h6 => ?_)   -- C5
                  · skip
                    refine J_draw (Gs := _) (cl := [.p, .p, .r, .p, .p, .r, .p, .p, .r, .p, .p, .p, .p, .p, .p, .p, .p, .p, .p, .r, .p, .p, .p]) (by kernel_rfl) (fun _ _ h => h) ?_
                    refine V_mov (.s _ _ _) rfl rfl ?_   -- 17.0
                    first | refine V_fa0 (.s _ _ _) fo51_1 rfl rfl ?_ | refine V_faz (.s _ _ _) fo51_1 rfl rfl ?_ | refine V_fa (.s _ _ _) fo51_1 rfl rfl ?_   -- 17.1
                    refine V_ld (.s _ _ _) Tryd.isAgg45 rfl (by repeat (first | exact List.Mem.head _ | assumption | apply List.Mem.tail)) (by rfl) rfl ?_   -- 17.2
                    refine V_mov (.s _ _ _) rfl rfl ?_   -- 17.3
                    first | refine V_ix (.s _ _ _) Tryd.underlying45 Tryd.sizeOf34 rfl rfl (by omega) (by omega) rfl ?_ | refine V_ixz (.s _ _ _) Tryd.underlying45 Tryd.sizeOf34 rfl rfl (hp.h2.rd.pl (by rw [hp.h2.len]; omega)) (by omega) (by omega) rfl ?_ | refine V_ixz (.s _ _ _) Tryd.underlying45 Tryd.sizeOf34 rfl rfl (hrr.pl (by simp)) (by omega) (by omega) rfl ?_ | refine V_ixz (.s _ _ _) Tryd.underlying45 Tryd.sizeOf34 rfl rfl (hp.h1.pl (by simp)) (by omega) (by omega) rfl ?_   -- 17.4
                    obtain ⟨Ai, ci, hrow, hrr⟩ := hp.h2.get (i := i) (by omega)
                    have hrl := (hv.row (i := i) (by omega)).1
                    refine V_ldz (.s _ _ _) Tryd.isAgg34 rfl hp.h2.rd hrow rfl ?_   -- 17.5
                    refine V_mov (.s _ _ _) rfl rfl ?_   -- 17.6
                    first | refine V_ix (.s _ _ _) Tryd.underlying34 Tryd.sizeOf3 rfl rfl (by omega) (by omega) rfl ?_ | refine V_ixz (.s _ _ _) Tryd.underlying34 Tryd.sizeOf3 rfl rfl (hp.h2.rd.pl (by rw [hp.h2.len]; omega)) (by omega) (by omega) rfl ?_ | refine V_ixz (.s _ _ _) Tryd.underlying34 Tryd.sizeOf3 rfl rfl (hrr.pl (by simp)) (by omega) (by omega) rfl ?_ | refine V_ixz (.s _ _ _) Tryd.underlying34 Tryd.sizeOf3 rfl rfl (hp.h1.pl (by simp)) (by omega) (by omega) rfl ?_   -- 17.7
                    refine V_ldz (.s _ _ _) Tryd.isAgg3 rfl hrr (I_getN (i := j) (by omega)) rfl ?_   -- 17.8
                    rw [show (ch.getD i []).getD j 0 = cst ch i j from rfl]
                    have hcb := hv.ok.change i j (by omega) (by omega)
                    refine V_mov (.s _ _ _) rfl rfl ?_   -- 17.9
                    refine V_mov (.s _ _ _) rfl rfl ?_   -- 17.10
                    refine V_mov (.s _ _ _) rfl rfl ?_   -- 17.11
                    refine V_mov (.s _ _ _) rfl rfl ?_   -- 17.12
                    have hsj := or_lt (show s < 2 ^ st.length by omega) (show j < st.length by omega)
                    have hsg := or_gt (fol_not (by assumption : fol (natB be) s j = true))
                    have hix := ix_lt (n := st.length) (s := s ||| 2 ^ j) (i := j) (m := 2 ^ st.length) (by omega) hsj
                    have hpb := pay_bd (be := natB be) hv.ok.change (2 ^ st.length - (s ||| 2 ^ j)) (s ||| 2 ^ j) j (by omega) (by omega) (by omega)
                    refine V_shl (.s _ _ _) rfl rfl (by omega) (by simp [IntKind.bits]; omega) (by rw [shl_nat]; exact wrap_nat (lt63 (Nat.pow_lt_pow_right (by decide) (show j < 10 by omega)) (Nat.le_refl _))) rfl ?_   -- 17.13
                    rw [shl_nat]
                    refine V_or (r := ((s ||| 2 ^ j : Nat) : Int)) (.s _ _ _) rfl rfl (bits_or (by omega) (lt63 (Nat.pow_lt_pow_right (by decide) (show j < 10 by omega)) (Nat.le_refl _))) rfl ?_   -- 17.14
                    refine V_mul (.s _ _ _) rfl rfl (by rw [mulcast]; exact wrap_nat (by omega)) rfl ?_   -- 17.15
                    rw [mulcast]
                    refine V_mov (.s _ _ _) rfl rfl ?_   -- 17.16
                    refine V_add (.s _ _ _) rfl rfl (wrap_ok (by omega)) rfl ?_   -- 17.17
                    rw [show ((st.length * (s ||| 2 ^ j) : Nat) : Int) + (j : Int) = ((st.length * (s ||| 2 ^ j) + j : Nat) : Int) by omega]
                    first | refine V_ix (.s _ _ _) Tryd.underlying34 Tryd.sizeOf3 rfl rfl (by omega) (by omega) rfl ?_ | refine V_ixz (.s _ _ _) Tryd.underlying34 Tryd.sizeOf3 rfl rfl (hp.h2.rd.pl (by rw [hp.h2.len]; omega)) (by omega) (by omega) rfl ?_ | refine V_ixz (.s _ _ _) Tryd.underlying34 Tryd.sizeOf3 rfl rfl (hrr.pl (by simp)) (by omega) (by omega) rfl ?_ | refine V_ixz (.s _ _ _) Tryd.underlying34 Tryd.sizeOf3 rfl rfl (hp.h1.pl (by simp)) (by omega) (by omega) rfl ?_   -- 17.18
                    refine V_ld (.s _ _ _) Tryd.isAgg3 rfl (by repeat (first | exact List.Mem.head _ | assumption | apply List.Mem.tail)) (I_getN (xs := prG (-1) st.length ch (natB be) (s + 1) i) (i := st.length * (s ||| 2 ^ j) + j) (by simp; omega)) rfl ?_   -- 17.19
                    rw [prG_get (by omega) hsj (by omega)]
                    refine V_add (.s _ _ _) rfl rfl (wrap_ok (by omega)) rfl ?_   -- 17.20
                    refine V_min (.s _ _ _) rfl rfl rfl ?_   -- 17.21
                    refine V_asg (.s _ _ _) rfl rfl ?_   -- 17.22
                    refine V_sub [(0, _), (1, _), (2, _), (3, _), (4, _), (5, _), (6, _), (7, _), (8, _), (9, _), (27, _), (28, _), (41, _), (42, _), (43, _), (48, _)] ⟨rfl, rfl, rfl, rfl, rfl, rfl, rfl, rfl, rfl, rfl, rfl, rfl, rfl, rfl, rfl, rfl, trivial⟩ ?_
                    refine V_nil (.inr ⟨_, rfl⟩) ?_
                    refine E_blk ?_
                    refine E_then ?_
                    refine J_region ?_
                    refine V_add (.n _) rfl rfl (wrap_ok (by omega)) rfl ?_   -- 18.0
                    refine V_mov (.n _) rfl rfl ?_   -- 18.1
                    refine V_sub [(0, _), (1, _), (2, _), (3, _), (4, _), (5, _), (6, _), (7, _), (8, _), (9, _), (27, _), (28, _), (41, _), (42, _), (43, _), (48, _)] ⟨rfl, rfl, rfl, rfl, rfl, rfl, rfl, rfl, rfl, rfl, rfl, rfl, rfl, rfl, rfl, rfl, trivial⟩ ?_
                    refine V_nil (.inl rfl) ?_
                    -- again L2 0
                    have hnx := bestJ_yes (f := (fun j => cst ch i j + pay st.length ch (natB be) (s ||| 2 ^ j) j)) (m := (startV st.length s)) (by assumption : fol (natB be) s j = true)
                    refine E_again (j + 1) ?_ ?_ ?_ (fun w h => h)
                    · omega
                    · omega
                    · refine ⟨?_, ?_, ?_, ?_, ?_, ?_, ?_, ?_, ?_, ?_, ?_, ?_, ?_, trivial⟩ <;> first | rfl | exact int_eq hnx.symm | exact int_eq (by omega)
                  · skip
                    refine J_skip ?_
                    refine E_blk ?_
                    refine E_then ?_
                    refine J_region ?_
                    refine V_add (.n _) rfl rfl (wrap_ok (by omega)) rfl ?_   -- 18.0
                    refine V_mov (.n _) rfl rfl ?_   -- 18.1
                    refine V_sub [(0, _), (1, _), (2, _), (3, _), (4, _), (5, _), (6, _), (7, _), (8, _), (9, _), (27, _), (28, _), (41, _), (42, _), (43, _), (48, _)] ⟨rfl, rfl, rfl, rfl, rfl, rfl, rfl, rfl, rfl, rfl, rfl, rfl, rfl, rfl, rfl, rfl, trivial⟩ ?_
                    refine V_nil (.inl rfl) ?_
                    -- again L2 1
                    have hnx := bestJ_no (f := (fun j => cst ch i j + pay st.length ch (natB be) (s ||| 2 ^ j) j)) (m := (startV st.length s)) (by assumption : fol (natB be) s j = false)
                    refine E_again (j + 1) ?_ ?_ ?_ (fun w h => h)
                    · omega
                    · omega
                    · refine ⟨?_, ?_, ?_, ?_, ?_, ?_, ?_, ?_, ?_, ?_, ?_, ?_, ?_, trivial⟩ <;> first | rfl | exact int_eq hnx.symm | exact int_eq (by omega)
                · obtain rfl : j = st.length := by omega
                  have hpay := pay_eq2 (n := st.length) (ch := ch) (be := natB be) (s := s) (i := i) (by omega) hbit
                  refine J_exit ?_
                  refine E_then_exit ?_
                  refine E_lp_exit ?_
                  refine E_blk_hit ?_
                  refine E_then ?_
                  refine J_region ?_
                  refine V_mov (.n _) rfl rfl ?_   -- 19.0
                  refine V_mov (.n _) rfl rfl ?_   -- 19.1
                  refine V_mov (.n _) rfl rfl ?_   -- 19.2
                  have hix := ix_lt (n := st.length) (s := s) (i := i) (m := 2 ^ st.length) (by omega) (by omega)
                  refine V_mul (.n _) rfl rfl (by rw [mulcast]; exact wrap_nat (by omega)) rfl ?_   -- 19.3
                  rw [mulcast]
                  refine V_mov (.n _) rfl rfl ?_   -- 19.4
                  refine V_add (.n _) rfl rfl (wrap_ok (by omega)) rfl ?_   -- 19.5
                  rw [show ((st.length * s : Nat) : Int) + (i : Int) = ((st.length * s + i : Nat) : Int) by omega]
                  refine V_mov (.n _) rfl rfl ?_   -- 19.6
                  first | refine V_ix (.n _) Tryd.underlying34 Tryd.sizeOf3 rfl rfl (by omega) (by omega) rfl ?_ | refine V_ixz (.n _) Tryd.underlying34 Tryd.sizeOf3 rfl rfl (hp.h2.rd.pl (by rw [hp.h2.len]; omega)) (by omega) (by omega) rfl ?_ | refine V_ixz (.n _) Tryd.underlying34 Tryd.sizeOf3 rfl rfl (hrr.pl (by simp)) (by omega) (by omega) rfl ?_ | refine V_ixz (.n _) Tryd.underlying34 Tryd.sizeOf3 rfl rfl (hp.h1.pl (by simp)) (by omega) (by omega) rfl ?_   -- 19.7
                  refine V_st (cs' := I (prG (-1) st.length ch (natB be) (s + 1) (i + 1))) (.n _) Tryd.sizeOf3 rfl rfl rfl (by repeat (first | exact SetAt.z | apply SetAt.s)) (by rw [toN, I_set, hpay, prG_set (by omega)]) (by simp; omega) ?_   -- 19.8
                  refine V_sub [(0, _), (1, _), (2, _), (3, _), (4, _), (5, _), (6, _), (7, _), (8, _), (27, _), (28, _), (41, _), (42, _), (43, _)] ⟨rfl, rfl, rfl, rfl, rfl, rfl, rfl, rfl, rfl, rfl, rfl, rfl, rfl, rfl, trivial⟩ ?_
                  refine V_nil (.inl rfl) ?_
                  refine E_blk ?_
                  refine E_then ?_
                  refine J_region ?_
                  refine V_add (.n _) rfl rfl (wrap_ok (by omega)) rfl ?_   -- 20.0
                  refine V_mov (.n _) rfl rfl ?_   -- 20.1
                  refine V_sub [(0, _), (1, _), (2, _), (3, _), (4, _), (5, _), (6, _), (7, _), (8, _), (27, _), (28, _), (41, _), (42, _), (43, _)] ⟨rfl, rfl, rfl, rfl, rfl, rfl, rfl, rfl, rfl, rfl, rfl, rfl, rfl, rfl, trivial⟩ ?_
                  refine V_nil (.inl rfl) ?_
                  -- again L1 1
                  refine E_again (i + 1) ?_ ?_ ?_ (fun w h => h)
                  · omega
                  · omega
                  · refine ⟨?_, ?_, ?_, ?_, ?_, ?_, ?_, ?_, ?_, trivial⟩ <;> first | rfl | exact int_eq (by omega) | exact int_eq (by dsimp only; omega)
        · skip
          refine J_exit ?_
          refine E_then_exit ?_
          refine E_lp_exit ?_
          refine E_blk_hit ?_
          refine E_blk ?_
          refine E_then ?_
          refine J_region ?_
          refine V_mov (.n _) rfl rfl ?_   -- 5.0
          refine V_sub1 (.n _) rfl rfl (wrap_ok (by omega)) rfl ?_   -- 5.1
          refine V_asg (.n _) rfl rfl ?_   -- 5.2
          refine V_sub [(0, _), (1, _), (2, _), (3, _), (4, _), (5, _), (6, _), (27, _), (28, _), (29, _)] ⟨rfl, rfl, rfl, rfl, rfl, rfl, rfl, rfl, rfl, rfl, trivial⟩ ?_
          refine V_nil (.inl rfl) ?_
          -- again L0 0
          obtain rfl : i = st.length := by omega
          rw [prG_row]
          refine E_again (s) ?_ ?_ ?_ (fun w h => h)
          · omega
          · exact ⟨by omega, by omega⟩
          · refine ⟨?_, ?_, ?_, ?_, ?_, ?_, ?_, trivial⟩ <;> first | rfl | exact int_eq (by omega) | exact int_eq (by dsimp only; omega)
    · skip
      refine J_exit ?_
      refine E_then_exit ?_
      refine E_lp_exit ?_
      refine E_blk_hit ?_
      refine E_then ?_
      refine J_seq ?_
      refine J_region ?_
      refine V_mov (.n _) rfl rfl ?_   -- 21.0
      refine V_asg (.n _) rfl rfl ?_   -- 21.1
      refine V_sub [(0, _), (1, _), (2, _), (3, _), (4, _), (5, _), (6, _), (24, _)] ⟨rfl, rfl, rfl, rfl, rfl, rfl, rfl, rfl, trivial⟩ ?_
      refine V_nil (.inl rfl) ?_
      refine E_then ?_
      refine J_ret ?_
      -- return R0
      refine E_ret1 Tryd.results76 rfl (fun w hw => ?_)
      obtain rfl : q = 1 := by omega
      rw [prG_end] at hw
      exact ⟨_, [.c bT 3 (I (priceT st.length ch (natB be)))], rfl, hw.sublist (by simp), bT, rfl, rfl⟩

end Go.Proofs.YtgeahmmepfmcoaaDoor
