/- parts of the proofs of the bath statements -/
import Derived.Test.YtgeahmmepfmcoaaDoorRefCommon
import Derived.Test.YtgeahmmepfmcoaaDoorBounds
namespace Go.Proofs.YtgeahmmepfmcoaaDoor
open Go Go.RowKit L
set_option linter.unusedVariables false
set_option linter.unusedSimpArgs false

def shortR (xs : List (List UInt8)) : List UInt8 × Int := if validW xs = true then (shortS xs, 0) else ([], 2)
theorem Shortest_spec (w : World) (A : Option Addr) (c : Nat) (xs : List (List UInt8)) (hl : xs.length ≤ 140737488351232) (hr : Rd w A (Ss xs)) :
    Calls Tryd.prog 16 #[.slice A xs.length c] w fun e w' => e = .returned (.tuple #[.string ⟨(shortR xs).1.toArray⟩, .int .i64 (shortR xs).2]) ∧ St w [] w' := by
  unfold shortR
  cases hv : validW xs with
  | true => exact Shortest_yes w A c xs hl hr hv
  | false => exact Shortest_no w A c xs hl hr hv
theorem validW_two {u v : List UInt8} : validW [u, v] = (isWord u && isWord v) := by simp [validW]
theorem validW_three {u v x : List UInt8} : validW [u, v, x] = (isWord u && isWord v && isWord x) := by simp [validW, Bool.and_assoc]
theorem short_more {u v x : List UInt8} (h : validW [u, v, x] = true) : (shortS [u, v]).length ≤ (shortS [u, v, x]).length := by
  have h2 : validW [u, v] = true := by rw [validW_three] at h; rw [validW_two]; simp_all
  exact short_least h2 (covers_sub (ws := [u, v, x]) (by simp) (short_covers h))
theorem dual_len {u v : List UInt8} (hu : isWord u = true) (hv : isWord v = true) : (shortS [u, v]).length + (com u v).length = u.length + v.length := by
  have h := dual_two (u := u) (v := v) (by rw [validW_two, hu, hv]; rfl)
  have h2 := (com_len _ u v (Nat.le_refl _) (isWord_letters hu)).1
  omega

theorem comlaw_spec (w : World) (u v : List UInt8) : Calls Tryd.prog 4 #[.string ⟨u.toArray⟩, .string ⟨v.toArray⟩] w fun e w' => e = .returned (.bool true) ∧ St w [] w' := by
  refine calls (args := [.string ⟨u.toArray⟩, .string ⟨v.toArray⟩]) Tryd.func4 rfl Tryd.ntmps4 (Nat.le_of_ble_eq_true rfl) (St.refl w) ?_
  refine J_seq ?_
  refine J_region ?_
  refine V_asg (.n _) rfl rfl ?_   -- 0.0
  refine V_sub [(0, _), (1, _), (4, _)] ⟨rfl, rfl, rfl, trivial⟩ ?_
  refine V_nil (.inl rfl) ?_
  refine E_then ?_
  refine J_seq ?_
  refine J_region ?_
  refine V_mov (.n _) rfl rfl ?_   -- 1.0
  refine V_mov (.n _) rfl rfl ?_   -- 1.1
  refine V_call0 (.n _) Tryd.call19 (.cons rfl (.cons rfl .nil)) (fun w1 hw1 => Common_spec w1 u v) rfl trivial ?_   -- 1.2
  refine V_mov (.n _) rfl rfl ?_   -- 1.3
  refine V_ext (.n _) rfl rfl rfl ?_   -- 1.4
  refine V_ext (.n _) rfl rfl rfl ?_   -- 1.5
  refine V_asg (.n _) rfl rfl ?_   -- 1.6
  refine V_asg (.n _) rfl rfl ?_   -- 1.7
  refine V_sub [(0, _), (1, _), (4, _), (5, _), (6, _)] ⟨rfl, rfl, rfl, rfl, rfl, trivial⟩ ?_
  refine V_nil (.inl rfl) ?_
  refine E_then ?_
  refine J_seq ?_
  refine J_region ?_
  refine V_mov (.n _) rfl rfl ?_   -- 2.0
  refine V_mov (.n _) rfl rfl ?_   -- 2.1
  refine V_call0 (.n _) Tryd.call20 (.cons rfl (.cons rfl .nil)) (fun w1 hw1 => RefCommon_spec w1 u v) rfl trivial ?_   -- 2.2
  refine V_mov (.n _) rfl rfl ?_   -- 2.3
  refine V_ext (.n _) rfl rfl rfl ?_   -- 2.4
  refine V_ext (.n _) rfl rfl rfl ?_   -- 2.5
  refine V_asg (.n _) rfl rfl ?_   -- 2.6
  refine V_asg (.n _) rfl rfl ?_   -- 2.7
  refine V_sub [(0, _), (1, _), (4, _), (5, _), (6, _), (7, _), (8, _)] ⟨rfl, rfl, rfl, rfl, rfl, rfl, rfl, trivial⟩ ?_
  refine V_nil (.inl rfl) ?_
  refine E_then ?_
  refine J_seq ?_
  refine J_region ?_
  refine V_mov (.n _) rfl rfl ?_   -- 3.0
  refine V_mov (.n _) rfl rfl ?_   -- 3.1
  refine V_seql (.n _) rfl rfl rfl ?_   -- 3.2
  refine V_mov (.n _) rfl rfl ?_   -- 3.3
  refine V_split 24 rfl (fun h1 => ?_) (fun h1 => ?_)   -- guard 3.3
  · skip
    refine V_go (3, true) rfl ?_
    refine V_mov (.n _) rfl rfl ?_   -- 3.4
    refine V_go (3, true) rfl ?_
    refine V_mov (.n _) rfl rfl ?_   -- 3.5
    refine V_go (3, true) rfl ?_
    refine V_eql (.n _) rfl rfl rfl ?_   -- 3.6
    refine V_pickT (.n _) rfl rfl rfl ?_   -- 3.7
    refine V_mov (.n _) rfl rfl ?_   -- 3.8
    refine V_split 29 rfl (fun h2 => ?_) (fun h2 => ?_)   -- guard 3.8
    · skip
      refine V_go (8, true) rfl ?_
      refine V_call0 (.n _) Tryd.call17 .nil (fun w1 hw1 => awake_spec w1) rfl trivial ?_   -- 3.9
      refine V_pickT (.n _) rfl rfl rfl ?_   -- 3.10
      refine V_asg (.n _) rfl rfl ?_   -- 3.11
      refine V_sub [(0, _), (1, _), (4, _), (5, _), (6, _), (7, _), (8, _)] ⟨rfl, rfl, rfl, rfl, rfl, rfl, rfl, trivial⟩ ?_
      refine V_nil (.inl rfl) ?_
      refine E_then ?_
      refine J_ret ?_
      -- return R0
      refine E_ret1 Tryd.results4 rfl (fun w hw => ?_)
      exact ⟨rfl, hw⟩
    · exact absurd rfl h2
  · exact absurd rfl h1


theorem dual_bad {u v x : List UInt8} (hu : isWord u = true) (hv : isWord v = true) (h : (shortR [u, v, x]).2 = 2) : isWord x = false := by
  cases hx : isWord x with
  | false => rfl
  | true => rw [shortR, if_pos (by rw [validW_three, hu, hv, hx]; rfl)] at h; simp at h
theorem shortR_two {xs : List (List UInt8)} (h : ¬ (shortR xs).2 = 2) : (shortR xs).2 = 0 := by
  unfold shortR at h ⊢
  split
  · rfl
  · rename_i h2; rw [if_neg h2] at h; simp at h
theorem shortR_len {u v x : List UInt8} (h : (shortR [u, v, x]).2 = 0) : (((shortS [u, v]).length : Nat) : Int) ≤ (((shortR [u, v, x]).1.length : Nat) : Int) := by
  have hv : validW [u, v, x] = true := by
    cases hv : validW [u, v, x] with
    | true => rfl
    | false => rw [shortR, hv] at h; simp at h
  rw [shortR, if_pos hv]
  have := short_more hv
  exact Int.ofNat_le.2 this

theorem dual_no (w : World) (u v x : List UInt8) (h0 : (isWord u && isWord v) = false) : Calls Tryd.prog 5 #[.string ⟨u.toArray⟩, .string ⟨v.toArray⟩, .string ⟨x.toArray⟩] w fun e w' => e = .returned (.bool true) ∧ St w [] w' := by
  refine calls (args := [.string ⟨u.toArray⟩, .string ⟨v.toArray⟩, .string ⟨x.toArray⟩]) Tryd.func5 rfl Tryd.ntmps5 (Nat.le_of_ble_eq_true rfl) (St.refl w) ?_
  refine J_seq ?_
  refine J_region ?_
  refine V_asg (.n _) rfl rfl ?_   -- 0.0
  refine V_sub [(0, _), (1, _), (2, _), (6, _)] ⟨rfl, rfl, rfl, rfl, trivial⟩ ?_
  refine V_nil (.inl rfl) ?_
  refine E_then ?_
  refine J_seq ?_
  refine J_region ?_
  refine V_mov (.n _) rfl rfl ?_   -- 1.0
  refine V_mov (.n _) rfl rfl ?_   -- 1.1
  refine V_lit (.n _) Tryd.underlying22 Tryd.sizeOf9 Tryd.zeroValue9 (.cons rfl rfl rfl (.cons rfl rfl rfl .nil)) rfl rfl rfl (fun _ => trivial) (fun b15 => ?_)   -- 1.2
  refine V_call0 (.n _) Tryd.call16 (.cons rfl .nil) (fun w1 hw1 => Shortest_no w1 (some ⟨b15, 0, none⟩) 2 [u, v] (by simp) (Rd.own hw1 (t := 9) (List.Mem.head _)) (by rw [validW_two, h0])) rfl trivial ?_   -- 1.3
  refine V_mov (.n _) rfl rfl ?_   -- 1.4
  refine V_ext (.n _) rfl rfl rfl ?_   -- 1.5
  refine V_ext (.n _) rfl rfl rfl ?_   -- 1.6
  refine V_asg (.n _) rfl rfl ?_   -- 1.7
  refine V_asg (.n _) rfl rfl ?_   -- 1.8
  refine V_sub [(0, _), (1, _), (2, _), (6, _), (7, _), (8, _)] ⟨rfl, rfl, rfl, rfl, rfl, rfl, trivial⟩ ?_
  refine V_nil (.inl rfl) ?_
  refine E_then ?_
  refine J_seq ?_
  refine J_region ?_
  refine V_mov (.n _) rfl rfl ?_   -- 2.0
  refine V_mov (.n _) rfl rfl ?_   -- 2.1
  refine V_call0 (v := .tuple #[.string ⟨#[]⟩, .int .i64 2]) (.n _) Tryd.call19 (.cons rfl (.cons rfl .nil)) (fun w1 hw1 => by
  have h := Common_spec w1 u v
  rw [comR, if_neg (by intro hh; rw [hh.1, hh.2] at h0; simp at h0)] at h
  exact h) rfl trivial ?_
  refine V_mov (.n _) rfl rfl ?_   -- 2.3
  refine V_ext (.n _) rfl rfl rfl ?_   -- 2.4
  refine V_ext (.n _) rfl rfl rfl ?_   -- 2.5
  refine V_asg (.n _) rfl rfl ?_   -- 2.6
  refine V_asg (.n _) rfl rfl ?_   -- 2.7
  refine V_sub [(0, _), (1, _), (2, _), (6, _), (7, _), (8, _), (9, _), (10, _)] ⟨rfl, rfl, rfl, rfl, rfl, rfl, rfl, rfl, trivial⟩ ?_
  refine V_nil (.inl rfl) ?_
  refine E_then ?_
  refine J_seq ?_
  refine J_seq ?_
  refine J_region ?_
  refine V_mov (.n _) rfl rfl ?_   -- 3.0
  refine V_neq (.n _) rfl rfl rfl ?_   -- 3.1
  refine V_mov (.n _) rfl rfl ?_   -- 3.2
  refine V_pass (.n .p) (2, false) rfl rfl ?_   -- 3.3
  refine V_pass (.n .p) (2, false) rfl rfl ?_   -- 3.4
  refine V_pickT (.n _) rfl rfl rfl ?_   -- 3.5
  refine V_sub [(0, _), (1, _), (2, _), (6, _), (7, _), (8, _), (9, _), (10, _), (30, _)] ⟨rfl, rfl, rfl, rfl, rfl, rfl, rfl, rfl, rfl, trivial⟩ ?_
  refine V_nil (.inl rfl) ?_
  refine E_then ?_
  refine J_condT rfl ?_
  refine J_seq ?_
  refine J_region ?_
  refine V_mov (.n _) rfl rfl ?_   -- 4.0
  refine V_eql (.n _) rfl rfl rfl ?_   -- 4.1
  refine V_mov (.n _) rfl rfl ?_   -- 4.2
  refine V_go (2, true) rfl ?_
  refine V_mov (.n _) rfl rfl ?_   -- 4.3
  refine V_go (2, true) rfl ?_
  refine V_eql (.n _) rfl rfl rfl ?_   -- 4.4
  refine V_pickT (.n _) rfl rfl rfl ?_   -- 4.5
  refine V_mov (.n _) rfl rfl ?_   -- 4.6
  refine V_go (6, true) rfl ?_
  refine V_call0 (.n _) Tryd.call17 .nil (fun w1 hw1 => awake_spec w1) rfl trivial ?_   -- 4.7
  refine V_pickT (.n _) rfl rfl rfl ?_   -- 4.8
  refine V_asg (.n _) rfl rfl ?_   -- 4.9
  refine V_sub [(0, _), (1, _), (2, _), (6, _), (7, _), (8, _), (9, _), (10, _), (30, _)] ⟨rfl, rfl, rfl, rfl, rfl, rfl, rfl, rfl, rfl, trivial⟩ ?_
  refine V_nil (.inl rfl) ?_
  refine E_then ?_
  refine J_ret ?_
  refine E_then_ret ?_
  -- return R0
  refine E_ret1 Tryd.results5 rfl (fun w hw => ?_)
  exact ⟨rfl, hw.sublist (by simp)⟩

theorem dual_yes (w : World) (u v x : List UInt8) (h0 : (isWord u && isWord v) = true) : Calls Tryd.prog 5 #[.string ⟨u.toArray⟩, .string ⟨v.toArray⟩, .string ⟨x.toArray⟩] w fun e w' => e = .returned (.bool true) ∧ St w [] w' := by
  obtain ⟨hu, hv⟩ : isWord u = true ∧ isWord v = true := by simpa using h0
  have hvw : validW [u, v] = true := by rw [validW_two, h0]
  have hu8 := isWord_len hu
  have hv8 := isWord_len hv
  have hsl := short_le hvw
  have hcl := com_le u v
  have hdl := dual_len hu hv
  refine calls (args := [.string ⟨u.toArray⟩, .string ⟨v.toArray⟩, .string ⟨x.toArray⟩]) Tryd.func5 rfl Tryd.ntmps5 (Nat.le_of_ble_eq_true rfl) (St.refl w) ?_
  refine J_seq ?_
  refine J_region ?_
  refine V_asg (.n _) rfl rfl ?_   -- 0.0
  refine V_sub [(0, _), (1, _), (2, _), (6, _)] ⟨rfl, rfl, rfl, rfl, trivial⟩ ?_
  refine V_nil (.inl rfl) ?_
  refine E_then ?_
  refine J_seq ?_
  refine J_region ?_
  refine V_mov (.n _) rfl rfl ?_   -- 1.0
  refine V_mov (.n _) rfl rfl ?_   -- 1.1
  refine V_lit (.n _) Tryd.underlying22 Tryd.sizeOf9 Tryd.zeroValue9 (.cons rfl rfl rfl (.cons rfl rfl rfl .nil)) rfl rfl rfl (fun _ => trivial) (fun b15 => ?_)   -- 1.2
  refine V_call0 (.n _) Tryd.call16 (.cons rfl .nil) (fun w1 hw1 => Shortest_yes w1 (some ⟨b15, 0, none⟩) 2 [u, v] (by simp) (Rd.own hw1 (t := 9) (List.Mem.head _)) hvw) rfl trivial ?_   -- 1.3
  refine V_mov (.n _) rfl rfl ?_   -- 1.4
  refine V_ext (.n _) rfl rfl rfl ?_   -- 1.5
  refine V_ext (.n _) rfl rfl rfl ?_   -- 1.6
  refine V_asg (.n _) rfl rfl ?_   -- 1.7
  refine V_asg (.n _) rfl rfl ?_   -- 1.8
  refine V_sub [(0, _), (1, _), (2, _), (6, _), (7, _), (8, _)] ⟨rfl, rfl, rfl, rfl, rfl, rfl, trivial⟩ ?_
  refine V_nil (.inl rfl) ?_
  refine E_then ?_
  refine J_seq ?_
  refine J_region ?_
  refine V_mov (.n _) rfl rfl ?_   -- 2.0
  refine V_mov (.n _) rfl rfl ?_   -- 2.1
  refine V_call0 (v := .tuple #[.string ⟨(com u v).toArray⟩, .int .i64 0]) (.n _) Tryd.call19 (.cons rfl (.cons rfl .nil)) (fun w1 hw1 => by
  have h := Common_spec w1 u v
  rw [comR, if_pos ⟨hu, hv⟩] at h
  exact h) rfl trivial ?_
  refine V_mov (.n _) rfl rfl ?_   -- 2.3
  refine V_ext (.n _) rfl rfl rfl ?_   -- 2.4
  refine V_ext (.n _) rfl rfl rfl ?_   -- 2.5
  refine V_asg (.n _) rfl rfl ?_   -- 2.6
  refine V_asg (.n _) rfl rfl ?_   -- 2.7
  refine V_sub [(0, _), (1, _), (2, _), (6, _), (7, _), (8, _), (9, _), (10, _)] ⟨rfl, rfl, rfl, rfl, rfl, rfl, rfl, rfl, trivial⟩ ?_
  refine V_nil (.inl rfl) ?_
  refine E_then ?_
  refine J_seq ?_
  refine J_seq ?_
  refine J_region ?_
  refine V_mov (.n _) rfl rfl ?_   -- 3.0
  refine V_neq (.n _) rfl rfl rfl ?_   -- 3.1
  refine V_mov (.n _) rfl rfl ?_   -- 3.2
  refine V_go (2, false) rfl ?_
  refine V_mov (.n _) rfl rfl ?_   -- 3.3
  refine V_go (2, false) rfl ?_
  refine V_neq (.n _) rfl rfl rfl ?_   -- 3.4
  refine V_pickF (.n _) rfl rfl rfl ?_   -- 3.5
  refine V_sub [(0, _), (1, _), (2, _), (6, _), (7, _), (8, _), (9, _), (10, _), (30, _)] ⟨rfl, rfl, rfl, rfl, rfl, rfl, rfl, rfl, rfl, trivial⟩ ?_
  refine V_nil (.inl rfl) ?_
  refine E_then ?_
  refine J_condF rfl ?_
  refine J_skip ?_
  refine E_then ?_
  refine J_seq ?_
  refine J_seq ?_
  refine J_region ?_
  refine V_mov (.n _) rfl rfl ?_   -- 5.0
  refine V_slen (.n _) Tryd.underlying9 rfl rfl ?_   -- 5.1
  refine V_mov (.n _) rfl rfl ?_   -- 5.2
  refine V_slen (.n _) Tryd.underlying9 rfl rfl ?_   -- 5.3
  refine V_add (.n _) rfl rfl (wrap_ok (by omega)) rfl ?_   -- 5.4
  refine V_mov (.n _) rfl rfl ?_   -- 5.5
  refine V_slen (.n _) Tryd.underlying9 rfl rfl ?_   -- 5.6
  refine V_mov (.n _) rfl rfl ?_   -- 5.7
  refine V_slen (.n _) Tryd.underlying9 rfl rfl ?_   -- 5.8
  refine V_add (.n _) rfl rfl (wrap_ok (by omega)) rfl ?_   -- 5.9
  refine V_neq (.n _) rfl rfl rfl ?_   -- 5.10
  refine V_sub [(0, _), (1, _), (2, _), (6, _), (7, _), (8, _), (9, _), (10, _), (30, _), (50, _)] ⟨rfl, rfl, rfl, rfl, rfl, rfl, rfl, rfl, rfl, rfl, trivial⟩ ?_
  refine V_nil (.inl rfl) ?_
  refine E_then ?_
  refine J_cond rfl (fun h1 => ?_) (fun h1 => ?_)   -- C1
  · exact absurd (by omega) h1
  · skip
    refine J_skip ?_
    refine E_then ?_
    refine J_seq ?_
    refine J_region ?_
    refine V_mov (.n _) rfl rfl ?_   -- 7.0
    refine V_mov (.n _) rfl rfl ?_   -- 7.1
    refine V_mov (.n _) rfl rfl ?_   -- 7.2
    refine V_lit (.n _) Tryd.underlying22 Tryd.sizeOf9 Tryd.zeroValue9 (.cons rfl rfl rfl (.cons rfl rfl rfl (.cons rfl rfl rfl .nil))) rfl rfl rfl (fun _ => trivial) (fun b55 => ?_)   -- 7.3
    refine V_call0 (.n _) Tryd.call16 (.cons rfl .nil) (fun w1 hw1 => Shortest_spec w1 (some ⟨b55, 0, none⟩) 3 [u, v, x] (by simp) (Rd.own hw1 (t := 9) (List.Mem.head _))) rfl trivial ?_   -- 7.4
    refine V_mov (.n _) rfl rfl ?_   -- 7.5
    refine V_ext (.n _) rfl rfl rfl ?_   -- 7.6
    refine V_ext (.n _) rfl rfl rfl ?_   -- 7.7
    refine V_asg (.n _) rfl rfl ?_   -- 7.8
    refine V_asg (.n _) rfl rfl ?_   -- 7.9
    refine V_sub [(0, _), (1, _), (2, _), (6, _), (7, _), (8, _), (9, _), (10, _), (11, _), (30, _), (50, _)] ⟨rfl, rfl, rfl, rfl, rfl, rfl, rfl, rfl, rfl, rfl, rfl, trivial⟩ ?_
    refine V_nil (.inl rfl) ?_
    refine E_then ?_
    refine J_seq ?_
    refine J_region ?_
    refine V_mov (.n _) rfl rfl ?_   -- 8.0
    refine V_eql (.n _) rfl rfl rfl ?_   -- 8.1
    refine V_mov (.n _) rfl rfl ?_   -- 8.2
    refine V_split 61 rfl (fun h2 => ?_) (fun h2 => ?_)   -- guard 8.2
    · skip
      refine V_go (2, true) rfl ?_
      refine V_mov (.n _) rfl rfl ?_   -- 8.3
      refine V_go (2, true) rfl ?_
      refine V_call0 (.n _) Tryd.call21 (.cons rfl .nil) (fun w1 hw1 => Word_spec w1 x) rfl trivial ?_   -- 8.4
      refine V_go (2, true) rfl ?_
      refine V_notB (.n _) rfl rfl ?_   -- 8.5
      refine V_pickT (.n _) rfl rfl rfl ?_   -- 8.6
      refine V_mov (.n _) rfl rfl ?_   -- 8.7
      refine V_splitB 66 rfl (fun h3 => ?_) (fun h3 => ?_)   -- guard 8.7
      · skip
        refine V_pass (.n .p) (7, false) rfl rfl ?_   -- 8.8
        refine V_pass (.n .p) (7, false) rfl rfl ?_   -- 8.9
        refine V_pass (.n .p) (7, false) rfl rfl ?_   -- 8.10
        refine V_pass (.n .p) (10, true) rfl rfl ?_   -- 8.11
        refine V_pass (.n .p) (10, true) rfl rfl ?_   -- 8.12
        refine V_pass (.n .p) (10, true) rfl rfl ?_   -- 8.13
        refine V_pass (.n .p) (10, true) rfl rfl ?_   -- 8.14
        refine V_pass (.n .p) (10, true) rfl rfl ?_   -- 8.15
        refine V_pass (.n .p) (7, false) rfl rfl ?_   -- 8.16
        refine V_pickT (.n _) rfl rfl rfl ?_   -- 8.17
        refine V_mov (.n _) rfl rfl ?_   -- 8.18
        refine V_go (18, true) rfl ?_
        refine V_call0 (.n _) Tryd.call17 .nil (fun w1 hw1 => awake_spec w1) rfl trivial ?_   -- 8.19
        refine V_pickT (.n _) rfl rfl rfl ?_   -- 8.20
        refine V_asg (.n _) rfl rfl ?_   -- 8.21
        refine V_sub [(0, _), (1, _), (2, _), (6, _), (7, _), (8, _), (9, _), (10, _), (11, _), (30, _), (50, _)] ⟨rfl, rfl, rfl, rfl, rfl, rfl, rfl, rfl, rfl, rfl, rfl, trivial⟩ ?_
        refine V_nil (.inl rfl) ?_
        refine E_then ?_
        refine J_ret ?_
        -- return R0
        refine E_ret1 Tryd.results5 rfl (fun w hw => ?_)
        exact ⟨rfl, hw.sublist (by simp)⟩
      · exact absurd (dual_bad hu hv (by assumption)) (by simp_all)
    · skip
      refine V_pass (.n .p) (2, true) rfl rfl ?_   -- 8.3
      refine V_pass (.n .p) (2, true) rfl rfl ?_   -- 8.4
      refine V_pass (.n .p) (2, true) rfl rfl ?_   -- 8.5
      refine V_pickF (.n _) rfl rfl rfl ?_   -- 8.6
      refine V_mov (.n _) rfl rfl ?_   -- 8.7
      refine V_go (7, false) rfl ?_
      refine V_mov (.n _) rfl rfl ?_   -- 8.8
      refine V_go (7, false) rfl ?_
      refine V_eql (.n _) rfl rfl rfl ?_   -- 8.9
      refine V_go (7, false) rfl ?_
      refine V_mov (.n _) rfl rfl ?_   -- 8.10
      refine V_split 69 rfl (fun h4 => ?_) (fun h4 => ?_)   -- guard 8.10
      · skip
        refine V_go (10, true) rfl ?_
        refine V_mov (.n _) rfl rfl ?_   -- 8.11
        refine V_go (10, true) rfl ?_
        refine V_slen (.n _) Tryd.underlying9 rfl rfl ?_   -- 8.12
        refine V_go (10, true) rfl ?_
        refine V_mov (.n _) rfl rfl ?_   -- 8.13
        refine V_go (10, true) rfl ?_
        refine V_slen (.n _) Tryd.underlying9 rfl rfl ?_   -- 8.14
        refine V_go (10, true) rfl ?_
        refine V_geq (.n _) rfl rfl rfl ?_   -- 8.15
        refine V_go (7, false) rfl ?_
        refine V_pickT (.n _) rfl rfl rfl ?_   -- 8.16
        refine V_pickF (.n _) rfl rfl rfl ?_   -- 8.17
        refine V_mov (.n _) rfl rfl ?_   -- 8.18
        refine V_split 77 rfl (fun h5 => ?_) (fun h5 => ?_)   -- guard 8.18
        · skip
          refine V_go (18, true) rfl ?_
          refine V_call0 (.n _) Tryd.call17 .nil (fun w1 hw1 => awake_spec w1) rfl trivial ?_   -- 8.19
          refine V_pickT (.n _) rfl rfl rfl ?_   -- 8.20
          refine V_asg (.n _) rfl rfl ?_   -- 8.21
          refine V_sub [(0, _), (1, _), (2, _), (6, _), (7, _), (8, _), (9, _), (10, _), (11, _), (30, _), (50, _)] ⟨rfl, rfl, rfl, rfl, rfl, rfl, rfl, rfl, rfl, rfl, rfl, trivial⟩ ?_
          refine V_nil (.inl rfl) ?_
          refine E_then ?_
          refine J_ret ?_
          -- return R1
          refine E_ret1 Tryd.results5 rfl (fun w hw => ?_)
          exact ⟨rfl, hw.sublist (by simp)⟩
        · exact absurd (shortR_len (u := u) (v := v) (by assumption)) h5
      · exact absurd (shortR_two (by assumption)) h4


theorem dual_spec (w : World) (u v x : List UInt8) : Calls Tryd.prog 5 #[.string ⟨u.toArray⟩, .string ⟨v.toArray⟩, .string ⟨x.toArray⟩] w fun e w' => e = .returned (.bool true) ∧ St w [] w' := by
  cases h : isWord u && isWord v with
  | true => exact dual_yes w u v x h
  | false => exact dual_no w u v x h

end Go.Proofs.YtgeahmmepfmcoaaDoor
