/- parts that the proof of BathTours uses -/
import Derived.Test.YtgeahmmepfmcoaaDoorWords
namespace Go.Proofs.YtgeahmmepfmcoaaDoor
open Go Go.RowKit L
set_option linter.unusedVariables false
set_option linter.unusedSimpArgs false

theorem cast_at (p step l : Nat) : ((p : Int) / (step : Int) % ((l : Int) + 1)) = ((p / step % (l + 1) : Nat) : Int) := by push_cast; rfl
theorem cast_mul (a l : Nat) : ((a : Int) * ((l : Int) + 1)) = ((a * (l + 1) : Nat) : Int) := by push_cast; rfl
theorem nat_mul_le {a b x y : Nat} (h1 : a ≤ x) (h2 : b ≤ y) : a * b ≤ x * y := Nat.mul_le_mul h1 h2
theorem getD_len {ws : List (List UInt8)} (h : validW ws = true) (i : Nat) : (ws.getD i []).length ≤ 8 := by
  obtain ⟨_, _, h3⟩ := validW_len h
  by_cases hi : i < ws.length
  · simp [hi]; exact h3 _ (List.getElem_mem hi)
  · simp [List.getD_eq_getElem?_getD, List.getElem?_eq_none (by omega : ws.length ≤ i)]
theorem hit_iff {s : List UInt8} {a : Nat} {c : UInt8} (h : a < s.length) : (s[a]? = some c) ↔ ((s.getD a 0).toNat : Int) = (c.toNat : Int) := by
  simp [h]
  constructor
  · intro e; rw [e]
  · intro e; exact UInt8.toNat_inj.1 (by omega)

theorem positions_spec (w : World) (A : Option Addr) (c : Nat) (xs : List (List UInt8)) (hv : validW xs = true) (hr : Rd w A (Ss xs)) :
    Calls Tryd.prog 54 #[.slice A xs.length c] w fun e w' => e = .returned (.int .i64 (posN xs)) ∧ St w [] w' := by
  obtain ⟨hv1, hv2, hv3⟩ := validW_len hv
  refine calls (args := [.slice A xs.length c]) Tryd.func54 rfl Tryd.ntmps54 (Nat.le_of_ble_eq_true rfl) (St.refl w) ?_
  refine J_seq ?_
  refine J_region ?_
  refine V_asg (.n _) rfl rfl ?_   -- 0.0
  refine V_sub [(0, _), (2, _)] ⟨rfl, rfl, trivial⟩ ?_
  refine V_nil (.inl rfl) ?_
  refine E_then ?_
  refine J_seq ?_
  refine J_region ?_
  refine V_asg (.n _) rfl rfl ?_   -- 1.0
  refine V_sub [(0, _), (2, _), (3, _)] ⟨rfl, rfl, rfl, trivial⟩ ?_
  refine V_nil (.inl rfl) ?_
  refine E_then ?_
  refine J_seq ?_
  refine J_seq ?_
  refine J_region ?_
  refine V_mov (.n _) rfl rfl ?_   -- 2.0
  refine V_len (.n _) Tryd.underlying74 rfl rfl ?_   -- 2.1
  refine V_mov (.n _) rfl rfl ?_   -- 2.2
  refine V_sub [(0, _), (2, _), (3, _), (6, _), (7, _), (8, _)] ⟨rfl, rfl, rfl, rfl, rfl, rfl, trivial⟩ ?_
  refine V_nil (.inl rfl) ?_
  refine E_then ?_
  refine J_block ?_
  -- loop L0
  refine J_loop (X := Nat) (fun i => [(0, (.slice A xs.length c)), (2, (.int .i64 (0))), (3, .int .i64 (posN (xs.take i))), (6, (.slice A xs.length c)), (7, (.int .i64 ((xs.length : Nat) : Int))), (8, .int .i64 i)]) (fun i => []) (fun i => i ≤ xs.length) (fun i => xs.length - i) (0) (by refine ⟨?_, ?_, ?_, ?_, ?_, ?_, trivial⟩ <;> first | rfl | exact int_eq (by omega)) (fun w h => h) ?_ ?_
  · exact Nat.zero_le _
  · intro i hi
    refine J_seq ?_
    refine J_region ?_
    refine V_lss (.n _) rfl rfl rfl ?_   -- 3.0
    refine V_sub [(0, _), (2, _), (3, _), (6, _), (7, _), (8, _), (9, _)] ⟨rfl, rfl, rfl, rfl, rfl, rfl, rfl, trivial⟩ ?_
    refine V_nil (.inl rfl) ?_
    refine E_then ?_
    refine J_seq ?_
    refine J_cond rfl (fun h1 => ?_) (fun h1 => ?_)   -- C0
    · skip
      refine J_skip ?_
      refine E_then ?_
      refine J_seq ?_
      refine J_block ?_
      refine J_seq ?_
      refine J_region ?_
      first | refine V_ix (.n _) Tryd.underlying74 Tryd.sizeOf9 rfl rfl (by omega) (by omega) rfl ?_ | refine V_ixz (.n _) Tryd.underlying74 Tryd.sizeOf9 rfl rfl (hr.pl (by simp)) (by omega) (by omega) rfl ?_   -- 4.0
      first | refine V_ld (.n _) Tryd.isAgg9 rfl (by repeat (first | exact List.Mem.head _ | assumption | apply List.Mem.tail)) (by rfl) rfl ?_ | refine V_ldz (.n _) Tryd.isAgg9 rfl hr (Ss_getN (by omega)) rfl ?_   -- 4.1
      refine V_asg (.n _) rfl rfl ?_   -- 4.2
      refine V_sub [(0, _), (2, _), (3, _), (5, _), (6, _), (7, _), (8, _), (9, _)] ⟨rfl, rfl, rfl, rfl, rfl, rfl, rfl, rfl, trivial⟩ ?_
      refine V_nil (.inl rfl) ?_
      refine E_then ?_
      refine J_region ?_
      refine V_mov (.n _) rfl rfl ?_   -- 5.0
      refine V_mov (.n _) rfl rfl ?_   -- 5.1
      have hst := posN_take_le hv i
      have hln := getD_len hv i
      have hmul := nat_mul_le hst (show (xs.getD i []).length + 1 ≤ 9 by omega)
      refine V_slen (.n _) Tryd.underlying9 rfl rfl ?_   -- 5.2
      refine V_add (.n _) rfl rfl (wrap_ok (by omega)) rfl ?_   -- 5.3
      refine V_mul (.n _) rfl rfl (by rw [cast_mul]; exact wrap_ok (by omega)) rfl ?_   -- 5.4
      rw [cast_mul, ← posN_take_succ (by omega)]
      refine V_asg (.n _) rfl rfl ?_   -- 5.5
      refine V_sub [(0, _), (2, _), (3, _), (5, _), (6, _), (7, _), (8, _), (9, _)] ⟨rfl, rfl, rfl, rfl, rfl, rfl, rfl, rfl, trivial⟩ ?_
      refine V_nil (.inl rfl) ?_
      refine E_blk ?_
      refine E_then ?_
      refine J_region ?_
      refine V_add (.n _) rfl rfl (wrap_ok (by omega)) rfl ?_   -- 6.0
      refine V_mov (.n _) rfl rfl ?_   -- 6.1
      refine V_sub [(0, _), (2, _), (3, _), (5, _), (6, _), (7, _), (8, _), (9, _)] ⟨rfl, rfl, rfl, rfl, rfl, rfl, rfl, rfl, trivial⟩ ?_
      refine V_nil (.inl rfl) ?_
      -- again L0 0
      refine E_again (i + 1) ?_ ?_ ?_ (fun w h => h)
      · omega
      · omega
      · refine ⟨?_, ?_, ?_, ?_, ?_, ?_, trivial⟩ <;> first | rfl | exact int_eq (by omega) | exact int_eq (by dsimp only; omega)
    · skip
      refine J_exit ?_
      refine E_then_exit ?_
      refine E_lp_exit ?_
      refine E_blk_hit ?_
      refine E_then ?_
      refine J_seq ?_
      refine J_region ?_
      refine V_mov (.n _) rfl rfl ?_   -- 7.0
      refine V_asg (.n _) rfl rfl ?_   -- 7.1
      refine V_sub [(0, _), (2, _), (3, _), (6, _), (7, _), (8, _), (9, _)] ⟨rfl, rfl, rfl, rfl, rfl, rfl, rfl, trivial⟩ ?_
      refine V_nil (.inl rfl) ?_
      refine E_then ?_
      refine J_ret ?_
      -- return R0
      refine E_ret1 Tryd.results54 rfl (fun w hw => ?_)
      exact ⟨by rw [List.take_of_length_le (by omega)], hw⟩

theorem after_spec (w : World) (A : Option Addr) (c : Nat) (xs : List (List UInt8)) (p : Nat) (cc : UInt8) (hv : validW xs = true) (hp : p ≤ 16777216) (hr : Rd w A (Ss xs)) :
    Calls Tryd.prog 52 #[.slice A xs.length c, .int .i64 p, .int .u8 cc.toNat] w fun e w' => e = .returned (.tuple #[.int .i64 (p + adv cc xs p 1 : Nat), .bool (decide (0 < adv cc xs p 1))]) ∧ St w [] w' := by
  obtain ⟨hv1, hv2, hv3⟩ := validW_len hv
  refine calls (args := [.slice A xs.length c, .int .i64 p, .int .u8 cc.toNat]) Tryd.func52 rfl Tryd.ntmps52 (Nat.le_of_ble_eq_true rfl) (St.refl w) ?_
  refine J_seq ?_
  refine J_region ?_
  refine V_asg (.n _) rfl rfl ?_   -- 0.0
  refine V_asg (.n _) rfl rfl ?_   -- 0.1
  refine V_sub [(0, _), (1, _), (2, _), (6, _), (7, _)] ⟨rfl, rfl, rfl, rfl, rfl, trivial⟩ ?_
  refine V_nil (.inl rfl) ?_
  refine E_then ?_
  refine J_seq ?_
  refine J_region ?_
  refine V_mov (.n _) rfl rfl ?_   -- 1.0
  refine V_asg (.n _) rfl rfl ?_   -- 1.1
  refine V_asg (.n _) rfl rfl ?_   -- 1.2
  refine V_asg (.n _) rfl rfl ?_   -- 1.3
  refine V_sub [(0, _), (1, _), (2, _), (6, _), (7, _), (8, _), (9, _), (10, _)] ⟨rfl, rfl, rfl, rfl, rfl, rfl, rfl, rfl, trivial⟩ ?_
  refine V_nil (.inl rfl) ?_
  refine E_then ?_
  refine J_seq ?_
  refine J_seq ?_
  refine J_region ?_
  refine V_mov (.n _) rfl rfl ?_   -- 2.0
  refine V_len (.n _) Tryd.underlying74 rfl rfl ?_   -- 2.1
  refine V_mov (.n _) rfl rfl ?_   -- 2.2
  refine V_sub [(0, _), (1, _), (2, _), (6, _), (7, _), (8, _), (9, _), (10, _), (15, _), (16, _), (17, _)] ⟨rfl, rfl, rfl, rfl, rfl, rfl, rfl, rfl, rfl, rfl, rfl, trivial⟩ ?_
  refine V_nil (.inl rfl) ?_
  refine E_then ?_
  refine J_block ?_
  -- loop L0
  refine J_loop (X := Nat × Nat × Bool) (fun x => [(0, (.slice A xs.length c)), (1, (.int .i64 p)), (2, (.int .u8 cc.toNat)), (6, (.int .i64 (0))), (7, (.bool false)), (8, .int .i64 (posN (xs.take x.1) : Nat)), (9, .bool x.2.2), (10, .int .i64 (x.2.1 : Nat)), (15, (.slice A xs.length c)), (16, (.int .i64 ((xs.length : Nat) : Int))), (17, .int .i64 (x.1 : Nat))]) (fun x => []) (fun x => x.1 ≤ xs.length ∧ x.2.1 + adv cc (xs.drop x.1) (p / posN (xs.take x.1)) (posN (xs.take x.1)) = p + adv cc xs p 1 ∧ (x.2.2 || decide (0 < adv cc (xs.drop x.1) (p / posN (xs.take x.1)) (posN (xs.take x.1)))) = decide (0 < adv cc xs p 1)) (fun x => xs.length - x.1) (0, p, false) (by refine ⟨?_, ?_, ?_, ?_, ?_, ?_, ?_, ?_, ?_, ?_, ?_, trivial⟩ <;> first | rfl | exact int_eq (by omega)) (fun w h => h) ?_ ?_
  · exact ⟨Nat.zero_le _, by simp [posN], by simp [posN]⟩
  · rintro ⟨i, nx, mv⟩ ⟨hi, hadv, hmv⟩
    dsimp only at hi hadv hmv ⊢
    refine J_seq ?_
    refine J_region ?_
    refine V_lss (.n _) rfl rfl rfl ?_   -- 3.0
    refine V_sub [(0, _), (1, _), (2, _), (6, _), (7, _), (8, _), (9, _), (10, _), (15, _), (16, _), (17, _), (18, _)] ⟨rfl, rfl, rfl, rfl, rfl, rfl, rfl, rfl, rfl, rfl, rfl, rfl, trivial⟩ ?_
    refine V_nil (.inl rfl) ?_
    refine E_then ?_
    refine J_seq ?_
    refine J_cond rfl (fun h1 => ?_) (fun h1 => ?_)   -- C0
    · skip
      refine J_skip ?_
      refine E_then ?_
      refine J_seq ?_
      refine J_block ?_
      refine J_seq ?_
      refine J_region ?_
      first | refine V_ix (.n _) Tryd.underlying74 Tryd.sizeOf9 rfl rfl (by omega) (by omega) rfl ?_ | refine V_ixz (.n _) Tryd.underlying74 Tryd.sizeOf9 rfl rfl (hr.pl (by simp)) (by omega) (by omega) rfl ?_   -- 4.0
      first | refine V_ld (.n _) Tryd.isAgg9 rfl (by repeat (first | exact List.Mem.head _ | assumption | apply List.Mem.tail)) (by rfl) rfl ?_ | refine V_ldz (.n _) Tryd.isAgg9 rfl hr (Ss_getN (by omega)) rfl ?_   -- 4.1
      refine V_asg (.n _) rfl rfl ?_   -- 4.2
      refine V_sub [(0, _), (1, _), (2, _), (6, _), (7, _), (8, _), (9, _), (10, _), (12, _), (15, _), (16, _), (17, _), (18, _)] ⟨rfl, rfl, rfl, rfl, rfl, rfl, rfl, rfl, rfl, rfl, rfl, rfl, rfl, trivial⟩ ?_
      refine V_nil (.inl rfl) ?_
      refine E_then ?_
      refine J_seq ?_
      refine J_seq ?_
      refine J_region ?_
      refine V_mov (.n _) rfl rfl ?_   -- 5.0
      refine V_mov (.n _) rfl rfl ?_   -- 5.1
      have hb := adv_bound hv cc p
      have hst := posN_take_le hv i
      have hsp := posN_pos (xs.take i)
      have hln := getD_len hv i
      have hlt : i < xs.length := by omega
      have had := adv_drop hlt cc (p / posN (xs.take i)) (posN (xs.take i))
      have hnx := posN_take_succ hlt
      have hdiv : p / posN (xs.take i) / ((xs.getD i []).length + 1) = p / posN (xs.take (i + 1)) := by rw [hnx, Nat.div_div_eq_div_mul]
      have hmul := nat_mul_le hst (show (xs.getD i []).length + 1 ≤ 9 by omega)
      have hq : p / posN (xs.take i) ≤ p := Nat.div_le_self _ _
      have hm : p / posN (xs.take i) % ((xs.getD i []).length + 1) < (xs.getD i []).length + 1 := Nat.mod_lt _ (by omega)
      have hq2 : p / posN (xs.take i) / ((xs.getD i []).length + 1) ≤ p / posN (xs.take i) := Nat.div_le_self _ _
      generalize hat : p / posN (xs.take i) % ((xs.getD i []).length + 1) = at_ at had hm
      rw [← hnx, hdiv] at had
      refine V_quo (.n _) rfl rfl (by omega) (by omega) (wrap_ok ⟨by have := Int.ediv_nonneg (a := (p : Int)) (b := ((posN (xs.take i) : Nat) : Int)) (by omega) (by omega); omega, by have := Int.ediv_le_self (a := (p : Int)) ((posN (xs.take i) : Nat) : Int) (by omega); omega⟩) rfl ?_   -- 5.2
      refine V_mov (.n _) rfl rfl ?_   -- 5.3
      refine V_slen (.n _) Tryd.underlying9 rfl rfl ?_   -- 5.4
      refine V_add (.n _) rfl rfl (wrap_ok (by omega)) rfl ?_   -- 5.5
      refine V_rem (.n _) rfl rfl (Int.ediv_nonneg (by omega) (by omega)) (by omega) rfl ?_   -- 5.6
      rw [cast_at, hat]
      refine V_asg (.n _) rfl rfl ?_   -- 5.7
      refine V_sub [(0, _), (1, _), (2, _), (6, _), (7, _), (8, _), (9, _), (10, _), (12, _), (13, _), (15, _), (16, _), (17, _), (18, _)] ⟨rfl, rfl, rfl, rfl, rfl, rfl, rfl, rfl, rfl, rfl, rfl, rfl, rfl, rfl, trivial⟩ ?_
      refine V_nil (.inl rfl) ?_
      refine E_then ?_
      refine J_seq ?_
      refine J_region ?_
      refine V_mov (.n _) rfl rfl ?_   -- 6.0
      refine V_mov (.n _) rfl rfl ?_   -- 6.1
      refine V_slen (.n _) Tryd.underlying9 rfl rfl ?_   -- 6.2
      refine V_lss (.n _) rfl rfl rfl ?_   -- 6.3
      refine V_mov (.n _) rfl rfl ?_   -- 6.4
      refine V_split 32 rfl (fun h2 => ?_) (fun h2 => ?_)   -- guard 6.4
      · skip
        refine V_go (4, true) rfl ?_
        refine V_mov (.n _) rfl rfl ?_   -- 6.5
        refine V_go (4, true) rfl ?_
        refine V_mov (.n _) rfl rfl ?_   -- 6.6
        refine V_go (4, true) rfl ?_
        refine V_sidx (.n _) Tryd.underlying9 rfl rfl (by omega) (by omega) rfl ?_   -- 6.7
        refine V_go (4, true) rfl ?_
        refine V_mov (.n _) rfl rfl ?_   -- 6.8
        refine V_go (4, true) rfl ?_
        refine V_eql (.n _) rfl rfl rfl ?_   -- 6.9
        refine V_pickT (.n _) rfl rfl rfl ?_   -- 6.10
        refine V_sub [(0, _), (1, _), (2, _), (6, _), (7, _), (8, _), (9, _), (10, _), (12, _), (13, _), (15, _), (16, _), (17, _), (18, _), (38, _)] ⟨rfl, rfl, rfl, rfl, rfl, rfl, rfl, rfl, rfl, rfl, rfl, rfl, rfl, rfl, rfl, trivial⟩ ?_
        refine V_nil (.inl rfl) ?_
        refine E_then ?_
        refine J_cond rfl (fun h3 => ?_) (fun h3 => ?_)   -- C1
        · have hlt2 : at_ < (xs.getD i []).length := by omega
          have hhit : (xs.getD i [])[at_]? = some cc := (hit_iff hlt2).2 (by rw [← h3]; simp)
          refine J_seq ?_
          refine J_region ?_
          refine V_mov (.n _) rfl rfl ?_   -- 7.0
          refine V_mov (.n _) rfl rfl ?_   -- 7.1
          refine V_add (.n _) rfl rfl (wrap_ok (by rw [if_pos hhit] at had; omega)) rfl ?_   -- 7.2
          refine V_asg (.n _) rfl rfl ?_   -- 7.3
          refine V_sub [(0, _), (1, _), (2, _), (6, _), (7, _), (8, _), (9, _), (10, _), (12, _), (13, _), (15, _), (16, _), (17, _), (18, _), (38, _)] ⟨rfl, rfl, rfl, rfl, rfl, rfl, rfl, rfl, rfl, rfl, rfl, rfl, rfl, rfl, rfl, trivial⟩ ?_
          refine V_nil (.inl rfl) ?_
          refine E_then ?_
          refine J_region ?_
          refine V_asg (.n _) rfl rfl ?_   -- 8.0
          refine V_sub [(0, _), (1, _), (2, _), (6, _), (7, _), (8, _), (9, _), (10, _), (12, _), (13, _), (15, _), (16, _), (17, _), (18, _), (38, _)] ⟨rfl, rfl, rfl, rfl, rfl, rfl, rfl, rfl, rfl, rfl, rfl, rfl, rfl, rfl, rfl, trivial⟩ ?_
          refine V_nil (.inl rfl) ?_
          refine E_then ?_
          refine J_region ?_
          refine V_mov (.n _) rfl rfl ?_   -- 9.0
          refine V_mov (.n _) rfl rfl ?_   -- 9.1
          refine V_slen (.n _) Tryd.underlying9 rfl rfl ?_   -- 9.2
          refine V_add (.n _) rfl rfl (wrap_ok (by omega)) rfl ?_   -- 9.3
          refine V_mul (.n _) rfl rfl (by rw [cast_mul]; exact wrap_ok (by omega)) rfl ?_   -- 9.4
          rw [cast_mul, ← hnx]
          refine V_asg (.n _) rfl rfl ?_   -- 9.5
          refine V_sub [(0, _), (1, _), (2, _), (6, _), (7, _), (8, _), (9, _), (10, _), (12, _), (13, _), (15, _), (16, _), (17, _), (18, _), (38, _)] ⟨rfl, rfl, rfl, rfl, rfl, rfl, rfl, rfl, rfl, rfl, rfl, rfl, rfl, rfl, rfl, trivial⟩ ?_
          refine V_nil (.inl rfl) ?_
          refine E_blk ?_
          refine E_then ?_
          refine J_region ?_
          refine V_add (.n _) rfl rfl (wrap_ok (by omega)) rfl ?_   -- 10.0
          refine V_mov (.n _) rfl rfl ?_   -- 10.1
          refine V_sub [(0, _), (1, _), (2, _), (6, _), (7, _), (8, _), (9, _), (10, _), (12, _), (13, _), (15, _), (16, _), (17, _), (18, _), (38, _)] ⟨rfl, rfl, rfl, rfl, rfl, rfl, rfl, rfl, rfl, rfl, rfl, rfl, rfl, rfl, rfl, trivial⟩ ?_
          refine V_nil (.inl rfl) ?_
          -- again L0 0
          refine E_again (X := Nat × Nat × Bool) (KI := fun x => [(0, (.slice A xs.length c)), (1, (.int .i64 p)), (2, (.int .u8 cc.toNat)), (6, (.int .i64 (0))), (7, (.bool false)), (8, .int .i64 (posN (xs.take x.1) : Nat)), (9, .bool x.2.2), (10, .int .i64 (x.2.1 : Nat)), (15, (.slice A xs.length c)), (16, (.int .i64 ((xs.length : Nat) : Int))), (17, .int .i64 (x.1 : Nat))]) (GI := fun x => []) (I := fun x => x.1 ≤ xs.length ∧ x.2.1 + adv cc (xs.drop x.1) (p / posN (xs.take x.1)) (posN (xs.take x.1)) = p + adv cc xs p 1 ∧ (x.2.2 || decide (0 < adv cc (xs.drop x.1) (p / posN (xs.take x.1)) (posN (xs.take x.1)))) = decide (0 < adv cc xs p 1)) (μ := fun x => xs.length - x.1) (x := (i, nx, mv)) ((i + 1, nx + posN (xs.take i), true)) ?_ ?_ ?_ (fun w h => h)
          · show xs.length - (i + 1) < xs.length - i; omega
          · dsimp only
            rw [if_pos hhit] at had
            refine ⟨by omega, by omega, ?_⟩
            show (true || _) = _
            have : 0 < adv cc xs p 1 := by
              have h0 := posN_pos (xs.take i)
              have := hmv
              cases mv with
              | false => rw [had] at this; simp at this; exact this.1 (by omega)
              | true => simpa using this
            simp [this]
          · refine ⟨?_, ?_, ?_, ?_, ?_, ?_, ?_, ?_, ?_, ?_, ?_, trivial⟩ <;> first | rfl | exact int_eq (by omega) | exact int_eq (by dsimp only; omega)
        · have hlt2 : at_ < (xs.getD i []).length := by omega
          have hhit : ¬ (xs.getD i [])[at_]? = some cc := fun e => h3 (by have := (hit_iff hlt2).1 e; rw [← this]; simp)
          refine J_skip ?_
          refine E_then ?_
          refine J_region ?_
          refine V_mov (.n _) rfl rfl ?_   -- 9.0
          refine V_mov (.n _) rfl rfl ?_   -- 9.1
          refine V_slen (.n _) Tryd.underlying9 rfl rfl ?_   -- 9.2
          refine V_add (.n _) rfl rfl (wrap_ok (by omega)) rfl ?_   -- 9.3
          refine V_mul (.n _) rfl rfl (by rw [cast_mul]; exact wrap_ok (by omega)) rfl ?_   -- 9.4
          rw [cast_mul, ← hnx]
          refine V_asg (.n _) rfl rfl ?_   -- 9.5
          refine V_sub [(0, _), (1, _), (2, _), (6, _), (7, _), (8, _), (9, _), (10, _), (12, _), (13, _), (15, _), (16, _), (17, _), (18, _), (38, _)] ⟨rfl, rfl, rfl, rfl, rfl, rfl, rfl, rfl, rfl, rfl, rfl, rfl, rfl, rfl, rfl, trivial⟩ ?_
          refine V_nil (.inl rfl) ?_
          refine E_blk ?_
          refine E_then ?_
          refine J_region ?_
          refine V_add (.n _) rfl rfl (wrap_ok (by omega)) rfl ?_   -- 10.0
          refine V_mov (.n _) rfl rfl ?_   -- 10.1
          refine V_sub [(0, _), (1, _), (2, _), (6, _), (7, _), (8, _), (9, _), (10, _), (12, _), (13, _), (15, _), (16, _), (17, _), (18, _), (38, _)] ⟨rfl, rfl, rfl, rfl, rfl, rfl, rfl, rfl, rfl, rfl, rfl, rfl, rfl, rfl, rfl, trivial⟩ ?_
          refine V_nil (.inl rfl) ?_
          -- again L0 1
          refine E_again (X := Nat × Nat × Bool) (KI := fun x => [(0, (.slice A xs.length c)), (1, (.int .i64 p)), (2, (.int .u8 cc.toNat)), (6, (.int .i64 (0))), (7, (.bool false)), (8, .int .i64 (posN (xs.take x.1) : Nat)), (9, .bool x.2.2), (10, .int .i64 (x.2.1 : Nat)), (15, (.slice A xs.length c)), (16, (.int .i64 ((xs.length : Nat) : Int))), (17, .int .i64 (x.1 : Nat))]) (GI := fun x => []) (I := fun x => x.1 ≤ xs.length ∧ x.2.1 + adv cc (xs.drop x.1) (p / posN (xs.take x.1)) (posN (xs.take x.1)) = p + adv cc xs p 1 ∧ (x.2.2 || decide (0 < adv cc (xs.drop x.1) (p / posN (xs.take x.1)) (posN (xs.take x.1)))) = decide (0 < adv cc xs p 1)) (μ := fun x => xs.length - x.1) (x := (i, nx, mv)) ((i + 1, nx, mv)) ?_ ?_ ?_ (fun w h => h)
          · show xs.length - (i + 1) < xs.length - i; omega
          · dsimp only
            rw [if_neg hhit] at had
            refine ⟨by omega, by omega, ?_⟩
            show (mv || decide (0 < adv cc (xs.drop (i + 1)) (p / posN (xs.take (i + 1))) (posN (xs.take (i + 1))))) = _
            rw [had, Nat.zero_add] at hmv
            exact hmv
          · refine ⟨?_, ?_, ?_, ?_, ?_, ?_, ?_, ?_, ?_, ?_, ?_, trivial⟩ <;> first | rfl | exact int_eq (by omega) | exact int_eq (by dsimp only; omega)
      · have hhit : ¬ (xs.getD i [])[at_]? = some cc := by rw [List.getElem?_eq_none (by omega)]; simp
        refine V_pass (.n .p) (4, true) rfl rfl ?_   -- 6.5
        refine V_pass (.n .p) (4, true) rfl rfl ?_   -- 6.6
        refine V_pass (.n .p) (4, true) rfl rfl ?_   -- 6.7
        refine V_pass (.n .p) (4, true) rfl rfl ?_   -- 6.8
        refine V_pass (.n .p) (4, true) rfl rfl ?_   -- 6.9
        refine V_pickF (.n _) rfl rfl rfl ?_   -- 6.10
        refine V_sub [(0, _), (1, _), (2, _), (6, _), (7, _), (8, _), (9, _), (10, _), (12, _), (13, _), (15, _), (16, _), (17, _), (18, _), (38, _)] ⟨rfl, rfl, rfl, rfl, rfl, rfl, rfl, rfl, rfl, rfl, rfl, rfl, rfl, rfl, rfl, trivial⟩ ?_
        refine V_nil (.inl rfl) ?_
        refine E_then ?_
        refine J_condF rfl ?_
        refine J_skip ?_
        refine E_then ?_
        refine J_region ?_
        refine V_mov (.n _) rfl rfl ?_   -- 9.0
        refine V_mov (.n _) rfl rfl ?_   -- 9.1
        refine V_slen (.n _) Tryd.underlying9 rfl rfl ?_   -- 9.2
        refine V_add (.n _) rfl rfl (wrap_ok (by omega)) rfl ?_   -- 9.3
        refine V_mul (.n _) rfl rfl (by rw [cast_mul]; exact wrap_ok (by omega)) rfl ?_   -- 9.4
        rw [cast_mul, ← hnx]
        refine V_asg (.n _) rfl rfl ?_   -- 9.5
        refine V_sub [(0, _), (1, _), (2, _), (6, _), (7, _), (8, _), (9, _), (10, _), (12, _), (13, _), (15, _), (16, _), (17, _), (18, _), (38, _)] ⟨rfl, rfl, rfl, rfl, rfl, rfl, rfl, rfl, rfl, rfl, rfl, rfl, rfl, rfl, rfl, trivial⟩ ?_
        refine V_nil (.inl rfl) ?_
        refine E_blk ?_
        refine E_then ?_
        refine J_region ?_
        refine V_add (.n _) rfl rfl (wrap_ok (by omega)) rfl ?_   -- 10.0
        refine V_mov (.n _) rfl rfl ?_   -- 10.1
        refine V_sub [(0, _), (1, _), (2, _), (6, _), (7, _), (8, _), (9, _), (10, _), (12, _), (13, _), (15, _), (16, _), (17, _), (18, _), (38, _)] ⟨rfl, rfl, rfl, rfl, rfl, rfl, rfl, rfl, rfl, rfl, rfl, rfl, rfl, rfl, rfl, trivial⟩ ?_
        refine V_nil (.inl rfl) ?_
        -- again L0 2
        refine E_again (X := Nat × Nat × Bool) (KI := fun x => [(0, (.slice A xs.length c)), (1, (.int .i64 p)), (2, (.int .u8 cc.toNat)), (6, (.int .i64 (0))), (7, (.bool false)), (8, .int .i64 (posN (xs.take x.1) : Nat)), (9, .bool x.2.2), (10, .int .i64 (x.2.1 : Nat)), (15, (.slice A xs.length c)), (16, (.int .i64 ((xs.length : Nat) : Int))), (17, .int .i64 (x.1 : Nat))]) (GI := fun x => []) (I := fun x => x.1 ≤ xs.length ∧ x.2.1 + adv cc (xs.drop x.1) (p / posN (xs.take x.1)) (posN (xs.take x.1)) = p + adv cc xs p 1 ∧ (x.2.2 || decide (0 < adv cc (xs.drop x.1) (p / posN (xs.take x.1)) (posN (xs.take x.1)))) = decide (0 < adv cc xs p 1)) (μ := fun x => xs.length - x.1) (x := (i, nx, mv)) ((i + 1, nx, mv)) ?_ ?_ ?_ (fun w h => h)
        · show xs.length - (i + 1) < xs.length - i; omega
        · dsimp only
          rw [if_neg hhit] at had
          refine ⟨by omega, by omega, ?_⟩
          show (mv || decide (0 < adv cc (xs.drop (i + 1)) (p / posN (xs.take (i + 1))) (posN (xs.take (i + 1))))) = _
          rw [had, Nat.zero_add] at hmv
          exact hmv
        · refine ⟨?_, ?_, ?_, ?_, ?_, ?_, ?_, ?_, ?_, ?_, ?_, trivial⟩ <;> first | rfl | exact int_eq (by omega) | exact int_eq (by dsimp only; omega)
    · skip
      refine J_exit ?_
      refine E_then_exit ?_
      refine E_lp_exit ?_
      refine E_blk_hit ?_
      refine E_then ?_
      refine J_seq ?_
      refine J_region ?_
      refine V_mov (.n _) rfl rfl ?_   -- 11.0
      refine V_mov (.n _) rfl rfl ?_   -- 11.1
      refine V_asg (.n _) rfl rfl ?_   -- 11.2
      refine V_asg (.n _) rfl rfl ?_   -- 11.3
      refine V_sub [(0, _), (1, _), (2, _), (6, _), (7, _), (8, _), (9, _), (10, _), (15, _), (16, _), (17, _), (18, _)] ⟨rfl, rfl, rfl, rfl, rfl, rfl, rfl, rfl, rfl, rfl, rfl, rfl, trivial⟩ ?_
      refine V_nil (.inl rfl) ?_
      refine E_then ?_
      refine J_ret ?_
      -- return R0
      refine E_ret2 Tryd.results52 rfl rfl (fun w hw => ?_)
      refine ⟨?_, hw⟩
      have e0 : adv cc (xs.drop i) (p / posN (xs.take i)) (posN (xs.take i)) = 0 := by rw [List.drop_of_length_le (by omega)]; rfl
      rw [e0] at hadv hmv
      have hmv' : mv = decide (0 < adv cc xs p 1) := by rw [← hmv]; simp
      rw [← hadv, ← hmv']
      rfl

end Go.Proofs.YtgeahmmepfmcoaaDoor
