/- parts that the proof of BathTours uses -/
import Derived.Test.YtgeahmmepfmcoaaDoorNeeds
namespace Go.Proofs.YtgeahmmepfmcoaaDoor
open Go Go.RowKit L
set_option linter.unusedVariables false
set_option linter.unusedSimpArgs false

def repC (v : Int) (k n : Nat) : List Int := List.replicate n v ++ List.replicate (k - n) 0
@[simp] theorem repC_length {v : Int} {k n : Nat} (h : n ≤ k) : (repC v k n).length = k := by simp [repC]; omega
theorem shr32 {k : Nat} (h : k < 2 ^ 32) : (k : Int) / 2 ^ (32 : Int).toNat = 0 := by
  rw [show (2 : Int) ^ (32 : Int).toNat = 4294967296 by decide]; omega
theorem I_app (a b : List Int) : I (a ++ b) = I a ++ I b := by simp [I]
theorem I_repl (k : Nat) (v : Int) : I (List.replicate k v) = List.replicate k (Value.int .i64 v) := by simp [I]
theorem rep_over {v : Int} {k n m : Nat} (h : n + m ≤ k) : over (I (repC v k n)) n (I (List.replicate m v)) = I (repC v k (n + m)) := by
  unfold over repC
  rw [I_app, I_repl, I_repl, I_repl, I_app, I_repl, I_repl, List.length_replicate]
  rw [List.take_left' (by simp), List.drop_append, List.drop_of_length_le (by simp), List.nil_append, List.drop_replicate, List.length_replicate]
  rw [List.replicate_append_replicate]
  congr 2; omega
theorem rep_first {v : Int} {k : Nat} (h : 1 ≤ k) : over (List.replicate k (Value.int .i64 0)) 0 [.int .i64 v] = I (repC v k 1) := by
  have := rep_over (v := v) (k := k) (n := 0) (m := 1) (by omega)
  rw [← this]; unfold repC; rw [I_app, I_repl, I_repl]; rfl
theorem rep_rd {w : World} {A : Option Addr} {v : Int} {k n m : Nat} (hm : m ≤ n) (h : Rd w A (I (repC v k n))) : Rd w A (I (List.replicate m v)) := by
  have h2 := h.take m
  have e : (I (repC v k n)).take m = I (List.replicate m v) := by
    unfold repC
    rw [I_app, I_repl, I_repl, I_repl, List.take_append_of_le_length (by simp; exact hm), List.take_replicate, Nat.min_eq_left hm]
  rw [e] at h2; exact h2
theorem I_one (l : List Int) : ∀ u ∈ I l, u.oneCell' = true := by
  intro u hu
  obtain ⟨x, _, rfl⟩ := List.mem_map.1 hu
  rfl
theorem cut_own {b k n : Nat} (h : ¬ k = n) : (if k = n then (some (Addr.mk b 0 none)) else (some (Addr.mk b 0 none)).map (·.add (n * 1))) = some ⟨b, n, none⟩ := by
  rw [if_neg h]; simp [add_plain]

def prG (z : Int) (n : Nat) (ch : Rows2) (B : Pairs) (q i : Nat) : List Int := mkT (n * 2 ^ n) fun x => if q ≤ x / n ∨ (x / n + 1 = q ∧ x % n < i) then pay n ch B (x / n) (x % n) else z
@[simp] theorem prG_length {z : Int} {n : Nat} {ch : Rows2} {B : Pairs} {q i : Nat} : (prG z n ch B q i).length = n * 2 ^ n := mkT_length _ _
theorem bestJ_yes {be : Pairs} {f : Nat → Int} {s j : Nat} {m : Int} (h : fol be s j = true) : bestJ be f s m (List.range (j + 1)) = min (bestJ be f s m (List.range j)) (f j) := by
  rw [bestJ_snoc (n := 0), if_pos h]
theorem bestJ_no {be : Pairs} {f : Nat → Int} {s j : Nat} {m : Int} (h : fol be s j = false) : bestJ be f s m (List.range (j + 1)) = bestJ be f s m (List.range j) := by
  rw [bestJ_snoc (n := 0), if_neg (by rw [h]; simp)]

theorem mul64_spec (w : World) (k : Nat) (hk : k < 2 ^ 32) : Calls Tryd.prog 125 #[.int .u64 1, .int .u64 k] w fun e w' => e = .returned (.tuple #[.int .u64 0, .int .u64 k]) ∧ St w [] w' := by
  have hs := shr32 hk
  have hm1 : bits2 .and .u64 1 4294967295 = 1 := mask32 (a := 1) (by decide)
  have hm0 : bits2 .and .u64 0 4294967295 = 0 := mask32 (a := 0) (by decide)
  have hk2 : (k : Int) < 4294967296 := by omega
  refine calls (args := [.int .u64 1, .int .u64 k]) Tryd.func125 rfl Tryd.ntmps125 (Nat.le_of_ble_eq_true rfl) (St.refl w) ?_
  refine J_seq ?_
  refine J_region ?_
  refine V_asg (.n _) rfl rfl ?_   -- 0.0
  refine V_asg (.n _) rfl rfl ?_   -- 0.1
  refine V_sub [(0, _), (1, _), (4, _), (5, _)] ⟨rfl, rfl, rfl, rfl, trivial⟩ ?_
  refine V_nil (.inl rfl) ?_
  refine E_then ?_
  refine J_seq ?_
  refine J_region ?_
  refine V_mov (.n _) rfl rfl ?_   -- 1.0
  refine V_and (r := 1) (.n _) rfl rfl hm1 rfl ?_   -- 1.1
  refine V_asg (.n _) rfl rfl ?_   -- 1.2
  refine V_sub [(0, _), (1, _), (4, _), (5, _), (6, _)] ⟨rfl, rfl, rfl, rfl, rfl, trivial⟩ ?_
  refine V_nil (.inl rfl) ?_
  refine E_then ?_
  refine J_seq ?_
  refine J_region ?_
  refine V_mov (.n _) rfl rfl ?_   -- 2.0
  refine V_shr (.n _) rfl rfl (by decide) (by decide) rfl ?_   -- 2.1
  rw [show (1 : Int) / 2 ^ (32 : Int).toNat = 0 by decide]
  refine V_asg (.n _) rfl rfl ?_   -- 2.2
  refine V_sub [(0, _), (1, _), (4, _), (5, _), (6, _), (7, _)] ⟨rfl, rfl, rfl, rfl, rfl, rfl, trivial⟩ ?_
  refine V_nil (.inl rfl) ?_
  refine E_then ?_
  refine J_seq ?_
  refine J_region ?_
  refine V_mov (.n _) rfl rfl ?_   -- 3.0
  refine V_and (r := k) (.n _) rfl rfl (mask32 hk) rfl ?_   -- 3.1
  refine V_asg (.n _) rfl rfl ?_   -- 3.2
  refine V_sub [(0, _), (1, _), (4, _), (5, _), (6, _), (7, _), (8, _)] ⟨rfl, rfl, rfl, rfl, rfl, rfl, rfl, trivial⟩ ?_
  refine V_nil (.inl rfl) ?_
  refine E_then ?_
  refine J_seq ?_
  refine J_region ?_
  refine V_mov (.n _) rfl rfl ?_   -- 4.0
  refine V_shr (.n _) rfl rfl (by decide) (by decide) rfl ?_   -- 4.1
  rw [hs]
  refine V_asg (.n _) rfl rfl ?_   -- 4.2
  refine V_sub [(0, _), (1, _), (4, _), (5, _), (6, _), (7, _), (8, _), (9, _)] ⟨rfl, rfl, rfl, rfl, rfl, rfl, rfl, rfl, trivial⟩ ?_
  refine V_nil (.inl rfl) ?_
  refine E_then ?_
  refine J_seq ?_
  refine J_region ?_
  refine V_mov (.n _) rfl rfl ?_   -- 5.0
  refine V_mov (.n _) rfl rfl ?_   -- 5.1
  refine V_mul (.n _) rfl rfl (wrapU (by omega)) rfl ?_   -- 5.2
  rw [Int.one_mul]
  refine V_asg (.n _) rfl rfl ?_   -- 5.3
  refine V_sub [(0, _), (1, _), (4, _), (5, _), (6, _), (7, _), (8, _), (9, _), (10, _)] ⟨rfl, rfl, rfl, rfl, rfl, rfl, rfl, rfl, rfl, trivial⟩ ?_
  refine V_nil (.inl rfl) ?_
  refine E_then ?_
  refine J_seq ?_
  refine J_region ?_
  refine V_mov (.n _) rfl rfl ?_   -- 6.0
  refine V_mov (.n _) rfl rfl ?_   -- 6.1
  refine V_mul (.n _) rfl rfl (wrapU (by omega)) rfl ?_   -- 6.2
  rw [Int.zero_mul]
  refine V_mov (.n _) rfl rfl ?_   -- 6.3
  refine V_shr (.n _) rfl rfl (by decide) (by decide) rfl ?_   -- 6.4
  rw [hs]
  refine V_add (.n _) rfl rfl (wrapU (by decide)) rfl ?_   -- 6.5
  rw [show (0 : Int) + 0 = 0 by decide]
  refine V_asg (.n _) rfl rfl ?_   -- 6.6
  refine V_sub [(0, _), (1, _), (4, _), (5, _), (6, _), (7, _), (8, _), (9, _), (10, _), (11, _)] ⟨rfl, rfl, rfl, rfl, rfl, rfl, rfl, rfl, rfl, rfl, trivial⟩ ?_
  refine V_nil (.inl rfl) ?_
  refine E_then ?_
  refine J_seq ?_
  refine J_region ?_
  refine V_mov (.n _) rfl rfl ?_   -- 7.0
  refine V_and (r := 0) (.n _) rfl rfl hm0 rfl ?_   -- 7.1
  refine V_asg (.n _) rfl rfl ?_   -- 7.2
  refine V_sub [(0, _), (1, _), (4, _), (5, _), (6, _), (7, _), (8, _), (9, _), (10, _), (11, _), (12, _)] ⟨rfl, rfl, rfl, rfl, rfl, rfl, rfl, rfl, rfl, rfl, rfl, trivial⟩ ?_
  refine V_nil (.inl rfl) ?_
  refine E_then ?_
  refine J_seq ?_
  refine J_region ?_
  refine V_mov (.n _) rfl rfl ?_   -- 8.0
  refine V_shr (.n _) rfl rfl (by decide) (by decide) rfl ?_   -- 8.1
  rw [show (0 : Int) / 2 ^ (32 : Int).toNat = 0 by decide]
  refine V_asg (.n _) rfl rfl ?_   -- 8.2
  refine V_sub [(0, _), (1, _), (4, _), (5, _), (6, _), (7, _), (8, _), (9, _), (10, _), (11, _), (12, _), (13, _)] ⟨rfl, rfl, rfl, rfl, rfl, rfl, rfl, rfl, rfl, rfl, rfl, rfl, trivial⟩ ?_
  refine V_nil (.inl rfl) ?_
  refine E_then ?_
  refine J_seq ?_
  refine J_region ?_
  refine V_mov (.n _) rfl rfl ?_   -- 9.0
  refine V_mov (.n _) rfl rfl ?_   -- 9.1
  refine V_mov (.n _) rfl rfl ?_   -- 9.2
  refine V_mul (.n _) rfl rfl (wrapU (by decide)) rfl ?_   -- 9.3
  rw [show (1 : Int) * 0 = 0 by decide]
  refine V_add (.n _) rfl rfl (wrapU (by decide)) rfl ?_   -- 9.4
  rw [show (0 : Int) + 0 = 0 by decide]
  refine V_asg (.n _) rfl rfl ?_   -- 9.5
  refine V_sub [(0, _), (1, _), (4, _), (5, _), (6, _), (7, _), (8, _), (9, _), (10, _), (11, _), (12, _), (13, _)] ⟨rfl, rfl, rfl, rfl, rfl, rfl, rfl, rfl, rfl, rfl, rfl, rfl, trivial⟩ ?_
  refine V_nil (.inl rfl) ?_
  refine E_then ?_
  refine J_seq ?_
  refine J_region ?_
  refine V_mov (.n _) rfl rfl ?_   -- 10.0
  refine V_mov (.n _) rfl rfl ?_   -- 10.1
  refine V_mul (.n _) rfl rfl (wrapU (by decide)) rfl ?_   -- 10.2
  rw [show (0 : Int) * 0 = 0 by decide]
  refine V_mov (.n _) rfl rfl ?_   -- 10.3
  refine V_add (.n _) rfl rfl (wrapU (by decide)) rfl ?_   -- 10.4
  rw [show (0 : Int) + 0 = 0 by decide]
  refine V_mov (.n _) rfl rfl ?_   -- 10.5
  refine V_shr (.n _) rfl rfl (by decide) (by decide) rfl ?_   -- 10.6
  rw [show (0 : Int) / 2 ^ (32 : Int).toNat = 0 by decide]
  refine V_add (.n _) rfl rfl (wrapU (by decide)) rfl ?_   -- 10.7
  rw [show (0 : Int) + 0 = 0 by decide]
  refine V_asg (.n _) rfl rfl ?_   -- 10.8
  refine V_sub [(0, _), (1, _), (4, _), (5, _), (6, _), (7, _), (8, _), (9, _), (10, _), (11, _), (12, _), (13, _)] ⟨rfl, rfl, rfl, rfl, rfl, rfl, rfl, rfl, rfl, rfl, rfl, rfl, trivial⟩ ?_
  refine V_nil (.inl rfl) ?_
  refine E_then ?_
  refine J_seq ?_
  refine J_region ?_
  refine V_mov (.n _) rfl rfl ?_   -- 11.0
  refine V_mov (.n _) rfl rfl ?_   -- 11.1
  refine V_mul (.n _) rfl rfl (wrapU (by omega)) rfl ?_   -- 11.2
  rw [Int.one_mul]
  refine V_asg (.n _) rfl rfl ?_   -- 11.3
  refine V_sub [(0, _), (1, _), (4, _), (5, _), (6, _), (7, _), (8, _), (9, _), (10, _), (11, _), (12, _), (13, _)] ⟨rfl, rfl, rfl, rfl, rfl, rfl, rfl, rfl, rfl, rfl, rfl, rfl, trivial⟩ ?_
  refine V_nil (.inl rfl) ?_
  refine E_then ?_
  refine J_ret ?_
  -- return R0
  refine E_ret2 Tryd.results125 rfl rfl (fun w hw => ?_)
  exact ⟨rfl, hw⟩

theorem mul_spec (w : World) (k : Nat) (hk : k < 2 ^ 32) : Calls Tryd.prog 112 #[.int .u64 1, .int .u64 k] w fun e w' => e = .returned (.tuple #[.int .u64 0, .int .u64 k]) ∧ St w [] w' := by
  refine calls (args := [.int .u64 1, .int .u64 k]) Tryd.func112 rfl Tryd.ntmps112 (Nat.le_of_ble_eq_true rfl) (St.refl w) ?_
  refine J_seq ?_
  refine J_region ?_
  refine V_asg (.n _) rfl rfl ?_   -- 0.0
  refine V_asg (.n _) rfl rfl ?_   -- 0.1
  refine V_sub [(0, _), (1, _), (4, _), (5, _)] ⟨rfl, rfl, rfl, rfl, trivial⟩ ?_
  refine V_nil (.inl rfl) ?_
  refine E_then ?_
  refine J_seq ?_
  refine J_condF rfl ?_
  refine J_skip ?_
  refine E_then ?_
  refine J_seq ?_
  refine J_region ?_
  refine V_mov (.n _) rfl rfl ?_   -- 3.0
  refine V_mov (.n _) rfl rfl ?_   -- 3.1
  refine V_call0 (.n _) Tryd.call125 (.cons rfl (.cons rfl .nil)) (fun w1 hw1 => mul64_spec w1 k hk) rfl trivial ?_   -- 3.2
  refine V_mov (.n _) rfl rfl ?_   -- 3.3
  refine V_ext (.n _) rfl rfl rfl ?_   -- 3.4
  refine V_ext (.n _) rfl rfl rfl ?_   -- 3.5
  refine V_asg (.n _) rfl rfl ?_   -- 3.6
  refine V_asg (.n _) rfl rfl ?_   -- 3.7
  refine V_sub [(0, _), (1, _), (4, _), (5, _), (8, _), (9, _)] ⟨rfl, rfl, rfl, rfl, rfl, rfl, trivial⟩ ?_
  refine V_nil (.inl rfl) ?_
  refine E_then ?_
  refine J_seq ?_
  refine J_region ?_
  refine V_mov (.n _) rfl rfl ?_   -- 4.0
  refine V_mov (.n _) rfl rfl ?_   -- 4.1
  refine V_asg (.n _) rfl rfl ?_   -- 4.2
  refine V_asg (.n _) rfl rfl ?_   -- 4.3
  refine V_sub [(0, _), (1, _), (4, _), (5, _), (8, _), (9, _)] ⟨rfl, rfl, rfl, rfl, rfl, rfl, trivial⟩ ?_
  refine V_nil (.inl rfl) ?_
  refine E_then ?_
  refine J_ret ?_
  -- return R0
  refine E_ret2 Tryd.results112 rfl rfl (fun w hw => ?_)
  exact ⟨rfl, hw⟩

theorem repeat_spec (w : World) (A : Option Addr) (c k : Nat) (v : Int) (hk1 : 1 ≤ k) (hk2 : k ≤ 16777216) (hr : Rd w A (I [v])) : Calls Tryd.prog 94 #[.slice A 1 c, .int .i64 k] w fun e w' => ∃ x D, e = .returned x ∧ St w D w' ∧ ∃ b, x = .slice (some ⟨b, 0, none⟩) k k ∧ D = [.c b 3 (I (List.replicate k v))] := by
  refine calls (args := [.slice A 1 c, .int .i64 k]) Tryd.func94 rfl Tryd.ntmps94 (Nat.le_of_ble_eq_true rfl) (St.refl w) ?_
  refine J_seq ?_
  refine J_region ?_
  refine V_asg (.n _) rfl rfl ?_   -- 0.0
  refine V_sub [(0, _), (1, _), (4, _)] ⟨rfl, rfl, rfl, trivial⟩ ?_
  refine V_nil (.inl rfl) ?_
  refine E_then ?_
  refine J_seq ?_
  refine J_seq ?_
  refine J_region ?_
  refine V_mov (.n _) rfl rfl ?_   -- 1.0
  refine V_lss (.n _) rfl rfl rfl ?_   -- 1.1
  refine V_sub [(0, _), (1, _), (4, _), (10, _)] ⟨rfl, rfl, rfl, rfl, trivial⟩ ?_
  refine V_nil (.inl rfl) ?_
  refine E_then ?_
  refine J_cond rfl (fun h1 => ?_) (fun h1 => ?_)   -- C0
  · exact absurd h1 (by omega)
  · skip
    refine J_skip ?_
    refine E_then ?_
    refine J_seq ?_
    refine J_region ?_
    refine V_mov (.n _) rfl rfl ?_   -- 3.0
    refine V_len (.n _) Tryd.underlying34 rfl rfl ?_   -- 3.1
    refine V_cvi (.n _) Tryd.underlying3 Tryd.underlying71 rfl (wrapU (by omega)) rfl ?_   -- 3.2
    refine V_mov (.n _) rfl rfl ?_   -- 3.3
    refine V_cvi (.n _) Tryd.underlying3 Tryd.underlying71 rfl (wrapU (by omega)) rfl ?_   -- 3.4
    refine V_call0 (.n _) Tryd.call112 (.cons rfl (.cons rfl .nil)) (fun w1 hw1 => mul_spec w1 k (by omega)) rfl trivial ?_   -- 3.5
    refine V_mov (.n _) rfl rfl ?_   -- 3.6
    refine V_ext (.n _) rfl rfl rfl ?_   -- 3.7
    refine V_ext (.n _) rfl rfl rfl ?_   -- 3.8
    refine V_asg (.n _) rfl rfl ?_   -- 3.9
    refine V_asg (.n _) rfl rfl ?_   -- 3.10
    refine V_sub [(0, _), (1, _), (4, _), (5, _), (6, _), (10, _)] ⟨rfl, rfl, rfl, rfl, rfl, rfl, trivial⟩ ?_
    refine V_nil (.inl rfl) ?_
    refine E_then ?_
    refine J_seq ?_
    refine J_seq ?_
    refine J_region ?_
    refine V_mov (.n _) rfl rfl ?_   -- 4.0
    refine V_gtr (.n _) rfl rfl rfl ?_   -- 4.1
    refine V_mov (.n _) rfl rfl ?_   -- 4.2
    refine V_go (2, false) rfl ?_
    refine V_mov (.n _) rfl rfl ?_   -- 4.3
    refine V_go (2, false) rfl ?_
    refine V_gtr (.n _) rfl rfl rfl ?_   -- 4.4
    refine V_pickF (.n _) rfl rfl rfl ?_   -- 4.5
    refine V_sub [(0, _), (1, _), (4, _), (5, _), (6, _), (10, _), (26, _)] ⟨rfl, rfl, rfl, rfl, rfl, rfl, rfl, trivial⟩ ?_
    refine V_nil (.inl rfl) ?_
    refine E_then ?_
    refine J_cond rfl (fun h2 => ?_) (fun h2 => ?_)   -- C1
    · exact absurd h2 (by omega)
    · skip
      refine J_skip ?_
      refine E_then ?_
      refine J_seq ?_
      refine J_region ?_
      refine V_mov (.n _) rfl rfl ?_   -- 6.0
      refine V_cvi (.n _) Tryd.underlying71 Tryd.underlying3 rfl (wrap_ok (by omega)) rfl ?_   -- 6.1
      refine V_make1 (.n _) Tryd.underlying34 Tryd.typeInfo3 rfl rfl rfl rfl rfl rfl (by omega) rfl (fun _ => trivial) (fun b30 => ?_)   -- 6.2
      refine V_asg (.n _) rfl rfl ?_   -- 6.3
      refine V_sub [(0, _), (1, _), (4, _), (5, _), (6, _), (7, _), (10, _), (26, _)] ⟨rfl, rfl, rfl, rfl, rfl, rfl, rfl, rfl, trivial⟩ ?_
      refine V_nil (.inl rfl) ?_
      refine E_then ?_
      refine J_seq ?_
      refine J_region ?_
      refine V_mov (.n _) rfl rfl ?_   -- 7.0
      refine V_mov (.n _) rfl rfl ?_   -- 7.1
      refine V_copy (ms := I [v]) (cs' := I (repC v k 1)) (.n _) Tryd.underlying34 Tryd.sizeOf3 rfl rfl (by repeat (first | exact SetAt.z | apply SetAt.s)) (fun w1 hw1 => hr.keep hw1) (by simp; omega) (I_one _) (by simp; omega) (rep_first hk1) rfl ?_   -- 7.2
      rw [show min 1 k = 1 by omega]
      refine V_asg (.n _) rfl rfl ?_   -- 7.3
      refine V_sub [(0, _), (1, _), (4, _), (5, _), (6, _), (7, _), (8, _), (10, _), (26, _)] ⟨rfl, rfl, rfl, rfl, rfl, rfl, rfl, rfl, rfl, trivial⟩ ?_
      refine V_nil (.inl rfl) ?_
      refine E_then ?_
      refine J_seq ?_
      refine J_block ?_
      -- loop L0
      refine J_loop (X := Nat) (fun n => [(0, (.slice A 1 c)), (1, (.int .i64 k)), (4, (.slice none 0 0)), (7, (.slice (some ⟨b30, 0, none⟩) k k)), (8, .int .i64 (n : Nat))]) (fun n => [.c b30 3 (I (repC v k n))]) (fun n => 1 ≤ n ∧ n ≤ k) (fun n => k - n) (1) (by refine ⟨?_, ?_, ?_, ?_, ?_, trivial⟩ <;> first | rfl | exact int_eq (by omega)) (fun w h => h) ?_ ?_
      · exact ⟨by omega, by omega⟩
      · rintro n ⟨hn1, hn2⟩
        refine J_seq ?_
        refine J_seq ?_
        refine J_region ?_
        refine V_mov (.n _) rfl rfl ?_   -- 8.0
        refine V_mov (.n _) rfl rfl ?_   -- 8.1
        refine V_len (.n _) Tryd.underlying34 rfl rfl ?_   -- 8.2
        refine V_lss (.n _) rfl rfl rfl ?_   -- 8.3
        refine V_sub [(0, _), (1, _), (4, _), (7, _), (8, _), (37, _)] ⟨rfl, rfl, rfl, rfl, rfl, rfl, trivial⟩ ?_
        refine V_nil (.inl rfl) ?_
        refine E_then ?_
        refine J_cond rfl (fun h3 => ?_) (fun h3 => ?_)   -- C2
        · skip
          refine J_skip ?_
          refine E_then ?_
          refine J_block ?_
          refine J_draw (Gs := _) (cl := [.p, .p, .p, .p, .p, .p, .p, .w, .p, .p]) (by kernel_rfl) (fun _ _ h => h) ?_
          refine V_mov (.s _ _ _) rfl rfl ?_   -- 9.0
          refine V_mov (.s _ _ _) rfl rfl ?_   -- 9.1
          refine V_mov (.s _ _ _) rfl rfl ?_   -- 9.2
          refine V_slcL (.s _ _ _) Tryd.underlying34 Tryd.sizeOf3 rfl rfl (by omega) (by omega) (Nat.le_refl _) rfl ?_   -- 9.3
          rw [show ((n : Nat) : Int).toNat = n by simp]
          rw [cut_own (by omega)]
          refine V_mov (.s _ _ _) rfl rfl ?_   -- 9.4
          refine V_mov (.s _ _ _) rfl rfl ?_   -- 9.5
          refine V_slcH (.s _ _ _) Tryd.underlying34 Tryd.sizeOf3 rfl rfl (by omega) (by omega) (Nat.le_refl _) rfl ?_   -- 9.6
          rw [show ((n : Nat) : Int).toNat = n by simp]
          refine V_copy (ms := I (List.replicate (min n (k - n)) v)) (cs' := I (repC v k (n + min n (k - n)))) (.s _ _ _) Tryd.underlying34 Tryd.sizeOf3 rfl rfl (by repeat (first | exact SetAt.z | apply SetAt.s)) (fun w1 hw1 => rep_rd (by omega) (Rd.own hw1 (t := 3) (List.Mem.head _))) (by simp) (I_one _) (by simp [repC_length (show n ≤ k by omega)]; omega) (rep_over (by omega)) rfl ?_   -- 9.7
          refine V_add (.s _ _ _) rfl rfl (wrap_ok (by omega)) rfl ?_   -- 9.8
          refine V_asg (.s _ _ _) rfl rfl ?_   -- 9.9
          refine V_sub [(0, _), (1, _), (4, _), (7, _), (8, _), (37, _)] ⟨rfl, rfl, rfl, rfl, rfl, rfl, trivial⟩ ?_
          refine V_nil (.inr ⟨_, rfl⟩) ?_
          refine E_blk ?_
          -- again L0 0
          refine E_again (n + min n (k - n)) ?_ ?_ ?_ (fun w h => h)
          · omega
          · exact ⟨by omega, by omega⟩
          · refine ⟨?_, ?_, ?_, ?_, ?_, trivial⟩ <;> first | rfl | exact int_eq (by omega) | exact int_eq (by dsimp only; omega)
        · skip
          refine J_exit ?_
          refine E_then_exit ?_
          refine E_lp_exit ?_
          refine E_blk_hit ?_
          refine E_then ?_
          refine J_seq ?_
          refine J_region ?_
          refine V_mov (.n _) rfl rfl ?_   -- 10.0
          refine V_asg (.n _) rfl rfl ?_   -- 10.1
          refine V_sub [(0, _), (1, _), (4, _), (7, _), (8, _), (37, _)] ⟨rfl, rfl, rfl, rfl, rfl, rfl, trivial⟩ ?_
          refine V_nil (.inl rfl) ?_
          refine E_then ?_
          refine J_ret ?_
          -- return R0
          refine E_ret1 Tryd.results94 rfl (fun w hw => ?_)
          obtain rfl : n = k := by omega
          rw [show repC v n n = List.replicate n v by simp [repC]] at hw
          exact ⟨_, _, rfl, hw, b30, rfl, rfl⟩

end Go.Proofs.YtgeahmmepfmcoaaDoor
