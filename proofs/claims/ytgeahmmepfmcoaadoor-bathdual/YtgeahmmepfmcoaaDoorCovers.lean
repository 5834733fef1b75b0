/- parts of the proofs of the bath statements -/
import Derived.Test.YtgeahmmepfmcoaaDoorWords
import Derived.Test.YtgeahmmepfmcoaaDoorAfter
import Derived.Test.YtgeahmmepfmcoaaDoorCore8
import Derived.Test.YtgeahmmepfmcoaaDoorBMath3
namespace Go.Proofs.YtgeahmmepfmcoaaDoor
open Go Go.RowKit L
set_option linter.unusedVariables false
set_option linter.unusedSimpArgs false

def coversR (s : List UInt8) (xs : List (List UInt8)) : Bool × Int := if validW xs = true ∧ s.length ≤ 40 ∧ trimS letters s = [] then (covers s xs, 0) else (false, 2)

theorem Covers_spec (w : World) (A : Option Addr) (c : Nat) (s : List UInt8) (xs : List (List UInt8)) (hl : xs.length ≤ 140737488351232) (hr : Rd w A (Ss xs)) :
    Calls Tryd.prog 18 #[.string ⟨s.toArray⟩, .slice A xs.length c] w fun e w' => e = .returned (.tuple #[.bool (coversR s xs).1, .int .i64 (coversR s xs).2]) ∧ St w [] w' := by
  refine calls (args := [.string ⟨s.toArray⟩, .slice A xs.length c]) Tryd.func18 rfl Tryd.ntmps18 (Nat.le_of_ble_eq_true rfl) (St.refl w) ?_
  refine J_seq ?_
  refine J_region ?_
  refine V_asg (.n _) rfl rfl ?_   -- 0.0
  refine V_asg (.n _) rfl rfl ?_   -- 0.1
  refine V_sub [(0, _), (1, _), (4, _), (5, _)] ⟨rfl, rfl, rfl, rfl, trivial⟩ ?_
  refine V_nil (.inl rfl) ?_
  refine E_then ?_
  refine J_seq ?_
  refine J_seq ?_
  refine J_region ?_
  refine V_mov (.n _) rfl rfl ?_   -- 1.0
  refine V_call0 (.n _) Tryd.call50 (.cons rfl .nil) (fun w1 hw1 => valid_spec w1 A c xs hl (hr.keep hw1)) rfl trivial ?_   -- 1.1
  refine V_notB (.n _) rfl rfl ?_   -- 1.2
  refine V_mov (.n _) rfl rfl ?_   -- 1.3
  refine V_splitB 12 rfl (fun h1 => ?_) (fun h1 => ?_)   -- guard 1.3
  · skip
    refine V_pass (.n .p) (3, false) rfl rfl ?_   -- 1.4
    refine V_pass (.n .p) (3, false) rfl rfl ?_   -- 1.5
    refine V_pass (.n .p) (3, false) rfl rfl ?_   -- 1.6
    refine V_pickT (.n _) rfl rfl rfl ?_   -- 1.7
    refine V_mov (.n _) rfl rfl ?_   -- 1.8
    refine V_pass (.n .p) (8, false) rfl rfl ?_   -- 1.9
    refine V_pass (.n .p) (8, false) rfl rfl ?_   -- 1.10
    refine V_pass (.n .p) (8, false) rfl rfl ?_   -- 1.11
    refine V_pickT (.n _) rfl rfl rfl ?_   -- 1.12
    refine V_sub [(0, _), (1, _), (4, _), (5, _), (21, _)] ⟨rfl, rfl, rfl, rfl, rfl, trivial⟩ ?_
    refine V_nil (.inl rfl) ?_
    refine E_then ?_
    refine J_condT rfl ?_
    refine J_seq ?_
    refine J_region ?_
    refine V_asg (.n _) rfl rfl ?_   -- 2.0
    refine V_asg (.n _) rfl rfl ?_   -- 2.1
    refine V_sub [(0, _), (1, _), (4, _), (5, _), (21, _)] ⟨rfl, rfl, rfl, rfl, rfl, trivial⟩ ?_
    refine V_nil (.inl rfl) ?_
    refine E_then ?_
    refine J_ret ?_
    refine E_then_ret ?_
    -- return R0
    refine E_ret2 Tryd.results18 rfl rfl (fun w hw => ?_)
    exact ⟨by rw [coversR, if_neg (by simp_all)], hw⟩
  · skip
    refine V_go (3, false) rfl ?_
    refine V_mov (.n _) rfl rfl ?_   -- 1.4
    refine V_go (3, false) rfl ?_
    refine V_slen (.n _) Tryd.underlying9 rfl rfl ?_   -- 1.5
    refine V_go (3, false) rfl ?_
    refine V_gtr (.n _) rfl rfl rfl ?_   -- 1.6
    refine V_pickF (.n _) rfl rfl rfl ?_   -- 1.7
    refine V_mov (.n _) rfl rfl ?_   -- 1.8
    refine V_split 17 rfl (fun h2 => ?_) (fun h2 => ?_)   -- guard 1.8
    · skip
      refine V_pass (.n .p) (8, false) rfl rfl ?_   -- 1.9
      refine V_pass (.n .p) (8, false) rfl rfl ?_   -- 1.10
      refine V_pass (.n .p) (8, false) rfl rfl ?_   -- 1.11
      refine V_pickT (.n _) rfl rfl rfl ?_   -- 1.12
      refine V_sub [(0, _), (1, _), (4, _), (5, _), (21, _)] ⟨rfl, rfl, rfl, rfl, rfl, trivial⟩ ?_
      refine V_nil (.inl rfl) ?_
      refine E_then ?_
      refine J_condT rfl ?_
      refine J_seq ?_
      refine J_region ?_
      refine V_asg (.n _) rfl rfl ?_   -- 2.0
      refine V_asg (.n _) rfl rfl ?_   -- 2.1
      refine V_sub [(0, _), (1, _), (4, _), (5, _), (21, _)] ⟨rfl, rfl, rfl, rfl, rfl, trivial⟩ ?_
      refine V_nil (.inl rfl) ?_
      refine E_then ?_
      refine J_ret ?_
      refine E_then_ret ?_
      -- return R1
      refine E_ret2 Tryd.results18 rfl rfl (fun w hw => ?_)
      exact ⟨by rw [coversR, if_neg (by omega)], hw⟩
    · skip
      refine V_go (8, false) rfl ?_
      refine V_mov (.n _) rfl rfl ?_   -- 1.9
      refine V_go (8, false) rfl ?_
      refine V_call0 (.n _) Tryd.call53 (.cons rfl (.cons rfl .nil)) (fun w1 hw1 => trim_spec w1 letters s (by omega) (by decide) (by decide) (by decide)) rfl trivial ?_   -- 1.10
      refine V_go (8, false) rfl ?_
      refine V_sneq (.n _) rfl rfl rfl ?_   -- 1.11
      refine V_pickF (.n _) rfl rfl rfl ?_   -- 1.12
      refine V_sub [(0, _), (1, _), (4, _), (5, _), (21, _)] ⟨rfl, rfl, rfl, rfl, rfl, trivial⟩ ?_
      refine V_nil (.inl rfl) ?_
      refine E_then ?_
      refine J_cond rfl (fun h3 => ?_) (fun h3 => ?_)   -- C0
      · skip
        refine J_seq ?_
        refine J_region ?_
        refine V_asg (.n _) rfl rfl ?_   -- 2.0
        refine V_asg (.n _) rfl rfl ?_   -- 2.1
        refine V_sub [(0, _), (1, _), (4, _), (5, _), (21, _)] ⟨rfl, rfl, rfl, rfl, rfl, trivial⟩ ?_
        refine V_nil (.inl rfl) ?_
        refine E_then ?_
        refine J_ret ?_
        refine E_then_ret ?_
        -- return R2
        refine E_ret2 Tryd.results18 rfl rfl (fun w hw => ?_)
        exact ⟨by rw [coversR, if_neg (fun hh => by simp_all)], hw⟩
      · skip
        refine J_skip ?_
        refine E_then ?_
        refine J_seq ?_
        refine J_region ?_
        refine V_asg (.n _) rfl rfl ?_   -- 3.0
        refine V_sub [(0, _), (1, _), (4, _), (5, _), (6, _), (21, _)] ⟨rfl, rfl, rfl, rfl, rfl, rfl, trivial⟩ ?_
        refine V_nil (.inl rfl) ?_
        refine E_then ?_
        refine J_seq ?_
        refine J_seq ?_
        refine J_region ?_
        refine V_mov (.n _) rfl rfl ?_   -- 4.0
        refine V_s2b (.n _) Tryd.underlying9 Tryd.underlying76 Tryd.underlying5 rfl rfl (fun _ _ _ => trivial) (fun b23 c23 sp23 fz23 => ?_)   -- 4.1
        refine V_len (.n _) Tryd.underlying76 rfl rfl ?_   -- 4.2
        refine V_mov (.n _) rfl rfl ?_   -- 4.3
        refine V_sub [(0, _), (1, _), (4, _), (5, _), (6, _), (21, _), (23, _), (24, _), (25, _)] ⟨rfl, rfl, rfl, rfl, rfl, rfl, rfl, rfl, rfl, trivial⟩ ?_
        refine V_nil (.inl rfl) ?_
        refine E_then ?_
        refine J_block ?_
        -- loop L0
        have hv : validW xs = true := by simpa using h1
        have hN := posN_le hv
        have hN0 := posN_pos xs
        refine J_loop (X := Nat) (fun k => [(0, (.string ⟨s.toArray⟩)), (1, (.slice A xs.length c)), (4, (.bool false)), (5, (.int .i64 (0))), (6, .int .i64 (runP xs 0 (s.take k) : Nat)), (23, (.slice (some ⟨b23, 0, none⟩) s.length c23)), (24, .int .i64 (s.length : Nat)), (25, .int .i64 (k : Nat))]) (fun k => [.f b23 5 (By s ++ sp23) fz23]) (fun k => k ≤ s.length) (fun k => s.length - k) (0) (by refine ⟨?_, ?_, ?_, ?_, ?_, ?_, ?_, ?_, trivial⟩ <;> first | rfl | exact int_eq (by omega)) (fun w h => h) ?_ ?_
        · omega
        · intro k hk
          refine J_seq ?_
          refine J_region ?_
          refine V_lss (.n _) rfl rfl rfl ?_   -- 5.0
          refine V_sub [(0, _), (1, _), (4, _), (5, _), (6, _), (23, _), (24, _), (25, _), (26, _)] ⟨rfl, rfl, rfl, rfl, rfl, rfl, rfl, rfl, rfl, trivial⟩ ?_
          refine V_nil (.inl rfl) ?_
          refine E_then ?_
          refine J_seq ?_
          refine J_cond rfl (fun h4 => ?_) (fun h4 => ?_)   -- C1
          · skip
            refine J_skip ?_
            refine E_then ?_
            refine J_seq ?_
            refine J_block ?_
            refine J_seq ?_
            refine J_region ?_
            refine V_ix (.n _) Tryd.underlying76 Tryd.sizeOf5 rfl rfl (by omega) (by omega) rfl ?_   -- 6.0
            refine V_ldf (.n _) Tryd.isAgg5 rfl (by repeat (first | exact List.Mem.head _ | assumption | apply List.Mem.tail)) (By_getNs (xs := s) (i := k) (by omega)) rfl ?_   -- 6.1
            refine V_asg (.n _) rfl rfl ?_   -- 6.2
            refine V_sub [(0, _), (1, _), (4, _), (5, _), (6, _), (8, _), (23, _), (24, _), (25, _), (26, _)] ⟨rfl, rfl, rfl, rfl, rfl, rfl, rfl, rfl, rfl, rfl, trivial⟩ ?_
            refine V_nil (.inl rfl) ?_
            refine E_then ?_
            refine J_region ?_
            refine V_mov (.n _) rfl rfl ?_   -- 7.0
            refine V_mov (.n _) rfl rfl ?_   -- 7.1
            refine V_mov (.n _) rfl rfl ?_   -- 7.2
            have hrl := runP_lt (s.take k) 0 hN0
            refine V_call0 (.n _) Tryd.call52 (.cons rfl (.cons rfl (.cons rfl .nil))) (fun w1 hw1 => after_spec w1 A c xs (runP xs 0 (s.take k)) (s.getD k 0) hv (by omega) (hr.keep hw1)) rfl trivial ?_   -- 7.3
            refine V_mov (.n _) rfl rfl ?_   -- 7.4
            refine V_ext (.n _) rfl rfl rfl ?_   -- 7.5
            refine V_ext (.n _) rfl rfl rfl ?_   -- 7.6
            refine V_asg (.n _) rfl rfl ?_   -- 7.7
            refine V_sub [(0, _), (1, _), (4, _), (5, _), (6, _), (8, _), (23, _), (24, _), (25, _), (26, _)] ⟨rfl, rfl, rfl, rfl, rfl, rfl, rfl, rfl, rfl, rfl, trivial⟩ ?_
            refine V_nil (.inl rfl) ?_
            refine E_blk ?_
            refine E_then ?_
            refine J_region ?_
            refine V_add (.n _) rfl rfl (wrap_ok (by omega)) rfl ?_   -- 8.0
            refine V_mov (.n _) rfl rfl ?_   -- 8.1
            refine V_sub [(0, _), (1, _), (4, _), (5, _), (6, _), (8, _), (23, _), (24, _), (25, _), (26, _)] ⟨rfl, rfl, rfl, rfl, rfl, rfl, rfl, rfl, rfl, rfl, trivial⟩ ?_
            refine V_nil (.inl rfl) ?_
            -- again L0 0
            rw [← runP_snoc (by omega)]
            refine E_again (k + 1) ?_ ?_ ?_ (fun w h => h)
            · omega
            · omega
            · refine ⟨?_, ?_, ?_, ?_, ?_, ?_, ?_, ?_, trivial⟩ <;> first | rfl | exact int_eq (by omega) | exact int_eq (by dsimp only; omega)
          · skip
            refine J_exit ?_
            refine E_then_exit ?_
            refine E_lp_exit ?_
            refine E_blk_hit ?_
            refine E_then ?_
            refine J_seq ?_
            refine J_region ?_
            refine V_mov (.n _) rfl rfl ?_   -- 9.0
            refine V_mov (.n _) rfl rfl ?_   -- 9.1
            refine V_call0 (.n _) Tryd.call54 (.cons rfl .nil) (fun w1 hw1 => positions_spec w1 A c xs hv (hr.keep hw1)) rfl trivial ?_   -- 9.2
            refine V_sub1 (.n _) rfl rfl (wrap_ok (by omega)) rfl ?_   -- 9.3
            refine V_eql (.n _) rfl rfl rfl ?_   -- 9.4
            refine V_asg (.n _) rfl rfl ?_   -- 9.5
            refine V_asg (.n _) rfl rfl ?_   -- 9.6
            refine V_sub [(0, _), (1, _), (4, _), (5, _), (6, _), (23, _), (24, _), (25, _), (26, _)] ⟨rfl, rfl, rfl, rfl, rfl, rfl, rfl, rfl, rfl, trivial⟩ ?_
            refine V_nil (.inl rfl) ?_
            refine E_then ?_
            refine J_ret ?_
            -- return R3
            refine E_ret2 Tryd.results18 rfl rfl (fun w hw => ?_)
            refine ⟨?_, hw.sublist (by simp)⟩
            rw [coversR, if_pos ⟨hv, by omega, by simp_all⟩]
            obtain rfl : k = s.length := by omega
            rw [List.take_length, covers, show (decide (((runP xs 0 s : Nat) : Int) = ((posN xs : Nat) : Int) - 1)) = decide (runP xs 0 s = posN xs - 1) from decide_eq_decide.2 (by omega)]

end Go.Proofs.YtgeahmmepfmcoaaDoor
