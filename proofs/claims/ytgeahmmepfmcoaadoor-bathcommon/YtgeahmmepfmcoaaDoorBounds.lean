/- parts of the proofs of the bath statements -/
import Derived.Test.YtgeahmmepfmcoaaDoorShort
import Derived.Test.YtgeahmmepfmcoaaDoorCovers
namespace Go.Proofs.YtgeahmmepfmcoaaDoor
open Go Go.RowKit L
set_option linter.unusedVariables false
set_option linter.unusedSimpArgs false

theorem rowB_iff {xs : List (List UInt8)} {ds : List Int} {p : Nat} : ∀ {l : List UInt8} {b : Bool}, rowB xs ds b p l = true ↔ b = true ∧ ∀ c ∈ l, okAt xs ds p c = true
  | [], b => by simp [rowB]
  | c :: l, b => by
    have : rowB xs ds b p (c :: l) = rowB xs ds (b && okAt xs ds p c) p l := rfl
    rw [this, rowB_iff, Bool.and_eq_true]
    simp [and_assoc]
theorem snd_iff {xs : List (List UInt8)} {ds : List Int} {b : Bool} : ∀ {n : Nat}, snd_ xs ds b n = true ↔ b = true ∧ ∀ p, p < n → ∀ c ∈ letters, okAt xs ds p c = true
  | 0 => by simp [snd_]
  | n + 1 => by
    rw [snd_, rowB_iff, snd_iff]
    constructor
    · rintro ⟨⟨h1, h2⟩, h3⟩
      refine ⟨h1, fun p hp => ?_⟩
      by_cases e : p = n
      · subst e; exact h3
      · exact h2 p (by omega)
    · rintro ⟨h1, h2⟩
      exact ⟨⟨h1, fun p hp => h2 p (by omega)⟩, h2 n (by omega)⟩
theorem okAt_iff {xs : List (List UInt8)} {ds : List Int} {p : Nat} {c : UInt8} : okAt xs ds p c = true ↔ (0 < adv c xs p 1 → ds.getD p 0 ≤ ds.getD (p + adv c xs p 1) 0 + 1) := by
  rw [okAt, Bool.not_eq_true', Bool.and_eq_false_iff, decide_eq_false_iff_not, decide_eq_false_iff_not]
  constructor
  · intro h h0
    rcases h with h | h
    · exact (h h0).elim
    · omega
  · intro h
    by_cases h0 : 0 < adv c xs p 1
    · exact .inr (by have := h h0; omega)
    · exact .inl h0
theorem snd_sound {xs : List (List UInt8)} {ds : List Int} : snd_ xs ds (decide (ds.getD (posN xs - 1) 0 ≤ 0)) (posN xs) = true ↔ Sound xs ds := by
  rw [snd_iff, decide_eq_true_eq]
  exact ⟨fun ⟨h1, h2⟩ => ⟨h1, fun p hp c hc => okAt_iff.1 (h2 p hp c hc)⟩, fun h => ⟨h.last, fun p hp c hc => okAt_iff.2 (h.step p hp c hc)⟩⟩
theorem own_bound {xs : List (List UInt8)} (hv : validW xs = true) : boundOf xs (tableOf xs) = ((tableOf xs).getD 0 0, true, 0) := by
  have hlen : (tableOf xs).length = posN xs := tabD_length _ _
  have hout : (tableOf xs).any out = false := by
    refine List.any_eq_false.2 fun z hz => ?_
    obtain ⟨i, hi, rfl⟩ := List.mem_iff_getElem.1 hz
    have h := tab_bd xs i
    have e : (tableOf xs).getD i 0 = (tableOf xs)[i] := by simp [hi]
    rw [e] at h
    have hfar : far = 1099511627776 := rfl
    simp [out]; omega
  rw [boundOf, if_neg (by simp [hv]), if_neg (by omega), if_neg (by simp [hout]), snd_sound.2 (tab_sound xs)]
theorem bound_ok {xs : List (List UInt8)} {ds : List Int} (h : (boundOf xs ds).2.2 = 0) (h2 : (boundOf xs ds).2.1 = true) : Sound xs ds ∧ (boundOf xs ds).1 = ds.getD 0 0 := by
  unfold boundOf at h h2 ⊢
  split at h
  · simp at h
  · split at h
    · simp at h
    · split at h
      · simp at h
      · rename_i h3 h4 h5
        rw [if_neg h3, if_neg h4, if_neg h5] at h2 ⊢
        exact ⟨snd_sound.1 h2, rfl⟩
theorem bnd_le {xs : List (List UInt8)} {ds : List Int} {s : List UInt8} (hv : validW xs = true) (hc : covers s xs = true) (h : (boundOf xs ds).2.2 = 0) (h2 : (boundOf xs ds).2.1 = true) : (s.length : Int) ≥ (boundOf xs ds).1 := by
  obtain ⟨h8, h9⟩ := bound_ok h h2
  rw [h9]
  exact sound_bound hv h8 hc
theorem short_R {xs : List (List UInt8)} (hv : validW xs = true) : coversR (shortS xs) xs = (true, 0) := by
  have h1 := short_le hv
  have h2 : trimS letters (shortS xs) = [] := by
    refine of_decide_eq_true ?_
    rw [trimS_bool]
    exact List.all_eq_true.2 fun c hc => by simpa using short_letters hv c hc
  rw [coversR, if_pos ⟨hv, by omega, h2⟩, short_covers hv]
theorem coversR_ok {xs : List (List UInt8)} {s : List UInt8} (h : (coversR s xs).2 = 0) (h2 : (coversR s xs).1 = true) : covers s xs = true := by
  unfold coversR at h h2
  split at h
  · rename_i h3
    rw [if_pos h3] at h2; exact h2
  · simp at h

theorem bounds_no (w : World) (A A2 : Option Addr) (c c2 : Nat) (s : List UInt8) (xs : List (List UInt8)) (ds : List Int) (hl : xs.length ≤ 140737488351232) (hl2 : ds.length ≤ 140737488351232) (hs : s.length ≤ 140737488351232) (hr : Rd w A (Ss xs)) (hd : Rd w A2 (I ds)) (hv : validW xs = false) :
    Calls Tryd.prog 6 #[.string ⟨s.toArray⟩, .slice A xs.length c, .slice A2 ds.length c2] w fun e w' => e = .returned (.bool true) ∧ St w [] w' := by
  refine calls (args := [.string ⟨s.toArray⟩, .slice A xs.length c, .slice A2 ds.length c2]) Tryd.func6 rfl Tryd.ntmps6 (Nat.le_of_ble_eq_true rfl) (St.refl w) ?_
  refine J_seq ?_
  refine J_region ?_
  refine V_asg (.n _) rfl rfl ?_   -- 0.0
  refine V_sub [(0, _), (1, _), (2, _), (6, _)] ⟨rfl, rfl, rfl, rfl, trivial⟩ ?_
  refine V_nil (.inl rfl) ?_
  refine E_then ?_
  refine J_seq ?_
  refine J_region ?_
  refine V_mov (.n _) rfl rfl ?_   -- 1.0
  refine V_call0 (.n _) Tryd.call22 (.cons rfl .nil) (fun w1 hw1 => Table_no w1 A c xs hl (hr.keep hw1) hv) rfl trivial ?_   -- 1.1
  refine V_mov (.n _) rfl rfl ?_   -- 1.2
  refine V_ext (.n _) rfl rfl rfl ?_   -- 1.3
  refine V_ext (.n _) rfl rfl rfl ?_   -- 1.4
  refine V_asg (.n _) rfl rfl ?_   -- 1.5
  refine V_asg (.n _) rfl rfl ?_   -- 1.6
  refine V_sub [(0, _), (1, _), (2, _), (6, _), (7, _), (8, _)] ⟨rfl, rfl, rfl, rfl, rfl, rfl, trivial⟩ ?_
  refine V_nil (.inl rfl) ?_
  refine E_then ?_
  refine J_seq ?_
  refine J_seq ?_
  refine J_region ?_
  refine V_mov (.n _) rfl rfl ?_   -- 2.0
  refine V_neq (.n _) rfl rfl rfl ?_   -- 2.1
  refine V_sub [(0, _), (1, _), (2, _), (6, _), (7, _), (8, _), (24, _)] ⟨rfl, rfl, rfl, rfl, rfl, rfl, rfl, trivial⟩ ?_
  refine V_nil (.inl rfl) ?_
  refine E_then ?_
  refine J_condT rfl ?_
  refine J_seq ?_
  refine J_region ?_
  refine V_mov (.n _) rfl rfl ?_   -- 3.0
  refine V_eql (.n _) rfl rfl rfl ?_   -- 3.1
  refine V_mov (.n _) rfl rfl ?_   -- 3.2
  refine V_go (2, true) rfl ?_
  refine V_call0 (.n _) Tryd.call17 .nil (fun w1 hw1 => awake_spec w1) rfl trivial ?_   -- 3.3
  refine V_pickT (.n _) rfl rfl rfl ?_   -- 3.4
  refine V_asg (.n _) rfl rfl ?_   -- 3.5
  refine V_sub [(0, _), (1, _), (2, _), (6, _), (7, _), (8, _), (24, _)] ⟨rfl, rfl, rfl, rfl, rfl, rfl, rfl, trivial⟩ ?_
  refine V_nil (.inl rfl) ?_
  refine E_then ?_
  refine J_ret ?_
  refine E_then_ret ?_
  -- return R0
  refine E_ret1 Tryd.results6 rfl (fun w hw => ?_)
  exact ⟨rfl, hw.sublist (by simp)⟩

theorem bounds_yes (w : World) (A A2 : Option Addr) (c c2 : Nat) (s : List UInt8) (xs : List (List UInt8)) (ds : List Int) (hl : xs.length ≤ 140737488351232) (hl2 : ds.length ≤ 140737488351232) (hs : s.length ≤ 140737488351232) (hr : Rd w A (Ss xs)) (hd : Rd w A2 (I ds)) (hv : validW xs = true) :
    Calls Tryd.prog 6 #[.string ⟨s.toArray⟩, .slice A xs.length c, .slice A2 ds.length c2] w fun e w' => e = .returned (.bool true) ∧ St w [] w' := by
  have hN : posN xs ≤ 6561 := posN_le hv
  have hlen : (tableOf xs).length = posN xs := tabD_length _ _
  have hsl := short_len hv
  refine calls (args := [.string ⟨s.toArray⟩, .slice A xs.length c, .slice A2 ds.length c2]) Tryd.func6 rfl Tryd.ntmps6 (Nat.le_of_ble_eq_true rfl) (St.refl w) ?_
  refine J_seq ?_
  refine J_region ?_
  refine V_asg (.n _) rfl rfl ?_   -- 0.0
  refine V_sub [(0, _), (1, _), (2, _), (6, _)] ⟨rfl, rfl, rfl, rfl, trivial⟩ ?_
  refine V_nil (.inl rfl) ?_
  refine E_then ?_
  refine J_seq ?_
  refine J_region ?_
  refine V_mov (.n _) rfl rfl ?_   -- 1.0
  refine V_call (post := fun v D => ∃ b, v = .tuple #[.slice (some ⟨b, 0, none⟩) (posN xs) (posN xs), .int .i64 0] ∧ .c b 3 (I (tableOf xs)) ∈ D) (.n _) Tryd.call22 (.cons rfl .nil) (fun w1 hw1 => Table_yes w1 A c xs hl (hr.keep hw1) hv) rfl trivial ?_
  rintro v D1 ⟨b1, rfl, hD1⟩
  refine V_mov (.n _) rfl rfl ?_   -- 1.2
  refine V_ext (.n _) rfl rfl rfl ?_   -- 1.3
  refine V_ext (.n _) rfl rfl rfl ?_   -- 1.4
  refine V_asg (.n _) rfl rfl ?_   -- 1.5
  refine V_asg (.n _) rfl rfl ?_   -- 1.6
  refine V_sub [(0, _), (1, _), (2, _), (6, _), (7, _), (8, _)] ⟨rfl, rfl, rfl, rfl, rfl, rfl, trivial⟩ ?_
  refine V_nil (.inl rfl) ?_
  refine E_then ?_
  refine J_seq ?_
  refine J_seq ?_
  refine J_region ?_
  refine V_mov (.n _) rfl rfl ?_   -- 2.0
  refine V_neq (.n _) rfl rfl rfl ?_   -- 2.1
  refine V_sub [(0, _), (1, _), (2, _), (6, _), (7, _), (8, _), (24, _)] ⟨rfl, rfl, rfl, rfl, rfl, rfl, rfl, trivial⟩ ?_
  refine V_nil (.inl rfl) ?_
  refine E_then ?_
  refine J_condF rfl ?_
  refine J_skip ?_
  refine E_then ?_
  refine J_seq ?_
  refine J_region ?_
  refine V_mov (.n _) rfl rfl ?_   -- 4.0
  refine V_mov (.n _) rfl rfl ?_   -- 4.1
  refine V_call0 (v := .tuple #[.int .i64 ((tableOf xs).getD 0 0), .bool true, .int .i64 0]) (.n _) Tryd.call23 (.cons rfl (.cons rfl .nil)) (fun w1 hw1 => by
  have h := Bound_spec w1 A (some ⟨b1, 0, none⟩) c (posN xs) xs (tableOf xs) hl (by rw [hlen]; omega) (hr.keep hw1) (Rd.own hw1 (t := 3) (by simp [hD1]))
  rw [own_bound hv, hlen] at h
  exact h) rfl trivial ?_
  refine V_mov (.n _) rfl rfl ?_   -- 4.3
  refine V_ext (.n _) rfl rfl rfl ?_   -- 4.4
  refine V_ext (.n _) rfl rfl rfl ?_   -- 4.5
  refine V_ext (.n _) rfl rfl rfl ?_   -- 4.6
  refine V_asg (.n _) rfl rfl ?_   -- 4.7
  refine V_asg (.n _) rfl rfl ?_   -- 4.8
  refine V_asg (.n _) rfl rfl ?_   -- 4.9
  refine V_sub [(0, _), (1, _), (2, _), (6, _), (7, _), (8, _), (9, _), (10, _), (24, _)] ⟨rfl, rfl, rfl, rfl, rfl, rfl, rfl, rfl, rfl, trivial⟩ ?_
  refine V_nil (.inl rfl) ?_
  refine E_then ?_
  refine J_seq ?_
  refine J_region ?_
  refine V_mov (.n _) rfl rfl ?_   -- 5.0
  refine V_call0 (.n _) Tryd.call16 (.cons rfl .nil) (fun w1 hw1 => Shortest_yes w1 A c xs hl (hr.keep hw1) hv) rfl trivial ?_   -- 5.1
  refine V_mov (.n _) rfl rfl ?_   -- 5.2
  refine V_ext (.n _) rfl rfl rfl ?_   -- 5.3
  refine V_ext (.n _) rfl rfl rfl ?_   -- 5.4
  refine V_asg (.n _) rfl rfl ?_   -- 5.5
  refine V_asg (.n _) rfl rfl ?_   -- 5.6
  refine V_sub [(0, _), (1, _), (2, _), (6, _), (7, _), (8, _), (9, _), (10, _), (11, _), (12, _), (24, _)] ⟨rfl, rfl, rfl, rfl, rfl, rfl, rfl, rfl, rfl, rfl, rfl, trivial⟩ ?_
  refine V_nil (.inl rfl) ?_
  refine E_then ?_
  refine J_seq ?_
  refine J_region ?_
  refine V_mov (.n _) rfl rfl ?_   -- 6.0
  refine V_mov (.n _) rfl rfl ?_   -- 6.1
  refine V_call0 (v := .tuple #[.bool true, .int .i64 0]) (.n _) Tryd.call18 (.cons rfl (.cons rfl .nil)) (fun w1 hw1 => by
  have h := Covers_spec w1 A c (shortS xs) xs hl (hr.keep hw1)
  rw [short_R hv] at h
  exact h) rfl trivial ?_
  refine V_mov (.n _) rfl rfl ?_   -- 6.3
  refine V_ext (.n _) rfl rfl rfl ?_   -- 6.4
  refine V_ext (.n _) rfl rfl rfl ?_   -- 6.5
  refine V_asg (.n _) rfl rfl ?_   -- 6.6
  refine V_asg (.n _) rfl rfl ?_   -- 6.7
  refine V_sub [(0, _), (1, _), (2, _), (6, _), (7, _), (8, _), (9, _), (10, _), (11, _), (12, _), (13, _), (14, _), (24, _)] ⟨rfl, rfl, rfl, rfl, rfl, rfl, rfl, rfl, rfl, rfl, rfl, rfl, rfl, trivial⟩ ?_
  refine V_nil (.inl rfl) ?_
  refine E_then ?_
  refine J_seq ?_
  refine J_seq ?_
  refine J_region ?_
  refine V_mov (.n _) rfl rfl ?_   -- 7.0
  refine V_neq (.n _) rfl rfl rfl ?_   -- 7.1
  refine V_mov (.n _) rfl rfl ?_   -- 7.2
  refine V_go (2, false) rfl ?_
  refine V_mov (.n _) rfl rfl ?_   -- 7.3
  refine V_go (2, false) rfl ?_
  refine V_neq (.n _) rfl rfl rfl ?_   -- 7.4
  refine V_pickF (.n _) rfl rfl rfl ?_   -- 7.5
  refine V_mov (.n _) rfl rfl ?_   -- 7.6
  refine V_go (6, false) rfl ?_
  refine V_mov (.n _) rfl rfl ?_   -- 7.7
  refine V_go (6, false) rfl ?_
  refine V_neq (.n _) rfl rfl rfl ?_   -- 7.8
  refine V_pickF (.n _) rfl rfl rfl ?_   -- 7.9
  refine V_mov (.n _) rfl rfl ?_   -- 7.10
  refine V_go (10, false) rfl ?_
  refine V_mov (.n _) rfl rfl ?_   -- 7.11
  refine V_go (10, false) rfl ?_
  refine V_notB (.n _) rfl rfl ?_   -- 7.12
  refine V_pickF (.n _) rfl rfl rfl ?_   -- 7.13
  refine V_mov (.n _) rfl rfl ?_   -- 7.14
  refine V_go (14, false) rfl ?_
  refine V_mov (.n _) rfl rfl ?_   -- 7.15
  refine V_go (14, false) rfl ?_
  refine V_mov (.n _) rfl rfl ?_   -- 7.16
  refine V_go (14, false) rfl ?_
  refine V_slen (.n _) Tryd.underlying9 rfl rfl ?_   -- 7.17
  refine V_go (14, false) rfl ?_
  refine V_neq (.n _) rfl rfl rfl ?_   -- 7.18
  rw [decide_eq_false (show ¬ ((tableOf xs).getD 0 0 ≠ ((shortS xs).length : Int)) by omega)]
  refine V_pickF (.n _) rfl rfl rfl ?_   -- 7.19
  refine V_mov (.n _) rfl rfl ?_   -- 7.20
  refine V_go (20, false) rfl ?_
  refine V_mov (.n _) rfl rfl ?_   -- 7.21
  refine V_go (20, false) rfl ?_
  refine V_notB (.n _) rfl rfl ?_   -- 7.22
  refine V_pickF (.n _) rfl rfl rfl ?_   -- 7.23
  refine V_sub [(0, _), (1, _), (2, _), (6, _), (7, _), (8, _), (9, _), (10, _), (11, _), (12, _), (13, _), (14, _), (24, _), (71, _)] ⟨rfl, rfl, rfl, rfl, rfl, rfl, rfl, rfl, rfl, rfl, rfl, rfl, rfl, rfl, trivial⟩ ?_
  refine V_nil (.inl rfl) ?_
  refine E_then ?_
  refine J_condF rfl ?_
  refine J_skip ?_
  refine E_then ?_
  refine J_seq ?_
  refine J_region ?_
  refine V_mov (.n _) rfl rfl ?_   -- 9.0
  refine V_mov (.n _) rfl rfl ?_   -- 9.1
  refine V_call0 (.n _) Tryd.call18 (.cons rfl (.cons rfl .nil)) (fun w1 hw1 => Covers_spec w1 A c s xs hl (hr.keep hw1)) rfl trivial ?_   -- 9.2
  refine V_mov (.n _) rfl rfl ?_   -- 9.3
  refine V_ext (.n _) rfl rfl rfl ?_   -- 9.4
  refine V_ext (.n _) rfl rfl rfl ?_   -- 9.5
  refine V_asg (.n _) rfl rfl ?_   -- 9.6
  refine V_asg (.n _) rfl rfl ?_   -- 9.7
  refine V_sub [(0, _), (1, _), (2, _), (6, _), (7, _), (8, _), (9, _), (10, _), (11, _), (12, _), (13, _), (14, _), (15, _), (24, _), (71, _)] ⟨rfl, rfl, rfl, rfl, rfl, rfl, rfl, rfl, rfl, rfl, rfl, rfl, rfl, rfl, rfl, trivial⟩ ?_
  refine V_nil (.inl rfl) ?_
  refine E_then ?_
  refine J_seq ?_
  refine J_region ?_
  refine V_mov (.n _) rfl rfl ?_   -- 10.0
  refine V_mov (.n _) rfl rfl ?_   -- 10.1
  refine V_call0 (.n _) Tryd.call23 (.cons rfl (.cons rfl .nil)) (fun w1 hw1 => Bound_spec w1 A A2 c c2 xs ds hl hl2 (hr.keep hw1) (hd.keep hw1)) rfl trivial ?_   -- 10.2
  refine V_mov (.n _) rfl rfl ?_   -- 10.3
  refine V_ext (.n _) rfl rfl rfl ?_   -- 10.4
  refine V_ext (.n _) rfl rfl rfl ?_   -- 10.5
  refine V_ext (.n _) rfl rfl rfl ?_   -- 10.6
  refine V_asg (.n _) rfl rfl ?_   -- 10.7
  refine V_asg (.n _) rfl rfl ?_   -- 10.8
  refine V_asg (.n _) rfl rfl ?_   -- 10.9
  refine V_sub [(0, _), (1, _), (2, _), (6, _), (7, _), (8, _), (9, _), (10, _), (11, _), (12, _), (13, _), (14, _), (15, _), (16, _), (17, _), (24, _), (71, _)] ⟨rfl, rfl, rfl, rfl, rfl, rfl, rfl, rfl, rfl, rfl, rfl, rfl, rfl, rfl, rfl, rfl, rfl, trivial⟩ ?_
  refine V_nil (.inl rfl) ?_
  refine E_then ?_
  refine J_seq ?_
  refine J_seq ?_
  refine J_region ?_
  refine V_mov (.n _) rfl rfl ?_   -- 11.0
  refine V_neq (.n _) rfl rfl rfl ?_   -- 11.1
  refine V_mov (.n _) rfl rfl ?_   -- 11.2
  refine V_split 87 rfl (fun h1 => ?_) (fun h1 => ?_)   -- guard 11.2
  · skip
    refine V_pass (.n .p) (2, false) rfl rfl ?_   -- 11.3
    refine V_pass (.n .p) (2, false) rfl rfl ?_   -- 11.4
    refine V_pickT (.n _) rfl rfl rfl ?_   -- 11.5
    refine V_sub [(0, _), (1, _), (2, _), (6, _), (7, _), (8, _), (9, _), (10, _), (11, _), (12, _), (13, _), (14, _), (15, _), (16, _), (17, _), (24, _), (71, _), (90, _)] ⟨rfl, rfl, rfl, rfl, rfl, rfl, rfl, rfl, rfl, rfl, rfl, rfl, rfl, rfl, rfl, rfl, rfl, rfl, trivial⟩ ?_
    refine V_nil (.inl rfl) ?_
    refine E_then ?_
    refine J_condT rfl ?_
    refine J_seq ?_
    refine J_region ?_
    refine V_call0 (.n _) Tryd.call17 .nil (fun w1 hw1 => awake_spec w1) rfl trivial ?_   -- 12.0
    refine V_asg (.n _) rfl rfl ?_   -- 12.1
    refine V_sub [(0, _), (1, _), (2, _), (6, _), (7, _), (8, _), (9, _), (10, _), (11, _), (12, _), (13, _), (14, _), (15, _), (16, _), (17, _), (24, _), (71, _), (90, _)] ⟨rfl, rfl, rfl, rfl, rfl, rfl, rfl, rfl, rfl, rfl, rfl, rfl, rfl, rfl, rfl, rfl, rfl, rfl, trivial⟩ ?_
    refine V_nil (.inl rfl) ?_
    refine E_then ?_
    refine J_ret ?_
    refine E_then_ret ?_
    -- return R0
    refine E_ret1 Tryd.results6 rfl (fun w hw => ?_)
    exact ⟨rfl, hw.sublist (by simp)⟩
  · skip
    refine V_go (2, false) rfl ?_
    refine V_mov (.n _) rfl rfl ?_   -- 11.3
    refine V_go (2, false) rfl ?_
    refine V_notB (.n _) rfl rfl ?_   -- 11.4
    refine V_pickF (.n _) rfl rfl rfl ?_   -- 11.5
    refine V_sub [(0, _), (1, _), (2, _), (6, _), (7, _), (8, _), (9, _), (10, _), (11, _), (12, _), (13, _), (14, _), (15, _), (16, _), (17, _), (24, _), (71, _), (90, _)] ⟨rfl, rfl, rfl, rfl, rfl, rfl, rfl, rfl, rfl, rfl, rfl, rfl, rfl, rfl, rfl, rfl, rfl, rfl, trivial⟩ ?_
    refine V_nil (.inl rfl) ?_
    refine E_then ?_
    refine J_condB rfl (fun h2 => ?_) (fun h2 => ?_)   -- C2
    · skip
      refine J_seq ?_
      refine J_region ?_
      refine V_call0 (.n _) Tryd.call17 .nil (fun w1 hw1 => awake_spec w1) rfl trivial ?_   -- 12.0
      refine V_asg (.n _) rfl rfl ?_   -- 12.1
      refine V_sub [(0, _), (1, _), (2, _), (6, _), (7, _), (8, _), (9, _), (10, _), (11, _), (12, _), (13, _), (14, _), (15, _), (16, _), (17, _), (24, _), (71, _), (90, _)] ⟨rfl, rfl, rfl, rfl, rfl, rfl, rfl, rfl, rfl, rfl, rfl, rfl, rfl, rfl, rfl, rfl, rfl, rfl, trivial⟩ ?_
      refine V_nil (.inl rfl) ?_
      refine E_then ?_
      refine J_ret ?_
      refine E_then_ret ?_
      -- return R1
      refine E_ret1 Tryd.results6 rfl (fun w hw => ?_)
      exact ⟨rfl, hw.sublist (by simp)⟩
    · have hcov : covers s xs = true := coversR_ok (by omega) (by simpa using h2)
      have hcov0 : (s.length : Int) ≥ (tableOf xs).getD 0 0 := sound_bound hv (tab_sound xs) hcov
      refine J_skip ?_
      refine E_then ?_
      refine J_seq ?_
      refine J_region ?_
      refine V_mov (.n _) rfl rfl ?_   -- 13.0
      refine V_slen (.n _) Tryd.underlying9 rfl rfl ?_   -- 13.1
      refine V_mov (.n _) rfl rfl ?_   -- 13.2
      refine V_geq (.n _) rfl rfl rfl ?_   -- 13.3
      rw [decide_eq_true (show (s.length : Int) ≥ (tableOf xs).getD 0 0 from hcov0)]
      refine V_mov (.n _) rfl rfl ?_   -- 13.4
      refine V_go (4, true) rfl ?_
      refine V_mov (.n _) rfl rfl ?_   -- 13.5
      refine V_go (4, true) rfl ?_
      refine V_neq (.n _) rfl rfl rfl ?_   -- 13.6
      refine V_go (4, true) rfl ?_
      refine V_mov (.n _) rfl rfl ?_   -- 13.7
      refine V_split 99 rfl (fun h3 => ?_) (fun h3 => ?_)   -- guard 13.7
      · skip
        refine V_pass (.n .p) (7, false) rfl rfl ?_   -- 13.8
        refine V_pass (.n .p) (7, false) rfl rfl ?_   -- 13.9
        refine V_go (4, true) rfl ?_
        refine V_pickT (.n _) rfl rfl rfl ?_   -- 13.10
        refine V_go (4, true) rfl ?_
        refine V_mov (.n _) rfl rfl ?_   -- 13.11
        refine V_pass (.n .p) (11, false) rfl rfl ?_   -- 13.12
        refine V_pass (.n .p) (11, false) rfl rfl ?_   -- 13.13
        refine V_pass (.n .p) (11, false) rfl rfl ?_   -- 13.14
        refine V_pass (.n .p) (11, false) rfl rfl ?_   -- 13.15
        refine V_go (4, true) rfl ?_
        refine V_pickT (.n _) rfl rfl rfl ?_   -- 13.16
        refine V_pickT (.n _) rfl rfl rfl ?_   -- 13.17
        refine V_mov (.n _) rfl rfl ?_   -- 13.18
        refine V_go (18, true) rfl ?_
        refine V_call0 (.n _) Tryd.call17 .nil (fun w1 hw1 => awake_spec w1) rfl trivial ?_   -- 13.19
        refine V_pickT (.n _) rfl rfl rfl ?_   -- 13.20
        refine V_asg (.n _) rfl rfl ?_   -- 13.21
        refine V_sub [(0, _), (1, _), (2, _), (6, _), (7, _), (8, _), (9, _), (10, _), (11, _), (12, _), (13, _), (14, _), (15, _), (16, _), (17, _), (24, _), (71, _), (90, _)] ⟨rfl, rfl, rfl, rfl, rfl, rfl, rfl, rfl, rfl, rfl, rfl, rfl, rfl, rfl, rfl, rfl, rfl, rfl, trivial⟩ ?_
        refine V_nil (.inl rfl) ?_
        refine E_then ?_
        refine J_ret ?_
        -- return R2
        refine E_ret1 Tryd.results6 rfl (fun w hw => ?_)
        exact ⟨rfl, hw.sublist (by simp)⟩
      · skip
        refine V_go (7, false) rfl ?_
        refine V_mov (.n _) rfl rfl ?_   -- 13.8
        refine V_go (7, false) rfl ?_
        refine V_notB (.n _) rfl rfl ?_   -- 13.9
        refine V_go (4, true) rfl ?_
        refine V_pickF (.n _) rfl rfl rfl ?_   -- 13.10
        refine V_go (4, true) rfl ?_
        refine V_mov (.n _) rfl rfl ?_   -- 13.11
        refine V_splitB 103 rfl (fun h4 => ?_) (fun h4 => ?_)   -- guard 13.11
        · skip
          refine V_pass (.n .p) (11, false) rfl rfl ?_   -- 13.12
          refine V_pass (.n .p) (11, false) rfl rfl ?_   -- 13.13
          refine V_pass (.n .p) (11, false) rfl rfl ?_   -- 13.14
          refine V_pass (.n .p) (11, false) rfl rfl ?_   -- 13.15
          refine V_go (4, true) rfl ?_
          refine V_pickT (.n _) rfl rfl rfl ?_   -- 13.16
          refine V_pickT (.n _) rfl rfl rfl ?_   -- 13.17
          refine V_mov (.n _) rfl rfl ?_   -- 13.18
          refine V_go (18, true) rfl ?_
          refine V_call0 (.n _) Tryd.call17 .nil (fun w1 hw1 => awake_spec w1) rfl trivial ?_   -- 13.19
          refine V_pickT (.n _) rfl rfl rfl ?_   -- 13.20
          refine V_asg (.n _) rfl rfl ?_   -- 13.21
          refine V_sub [(0, _), (1, _), (2, _), (6, _), (7, _), (8, _), (9, _), (10, _), (11, _), (12, _), (13, _), (14, _), (15, _), (16, _), (17, _), (24, _), (71, _), (90, _)] ⟨rfl, rfl, rfl, rfl, rfl, rfl, rfl, rfl, rfl, rfl, rfl, rfl, rfl, rfl, rfl, rfl, rfl, rfl, trivial⟩ ?_
          refine V_nil (.inl rfl) ?_
          refine E_then ?_
          refine J_ret ?_
          -- return R3
          refine E_ret1 Tryd.results6 rfl (fun w hw => ?_)
          exact ⟨rfl, hw.sublist (by simp)⟩
        · skip
          refine V_go (11, false) rfl ?_
          refine V_mov (.n _) rfl rfl ?_   -- 13.12
          refine V_go (11, false) rfl ?_
          refine V_slen (.n _) Tryd.underlying9 rfl rfl ?_   -- 13.13
          refine V_go (11, false) rfl ?_
          refine V_mov (.n _) rfl rfl ?_   -- 13.14
          refine V_go (11, false) rfl ?_
          have hbnd := bnd_le hv hcov (ds := ds) (by simpa using h3) (by simpa using h4)
          refine V_geq (.n _) rfl rfl rfl ?_   -- 13.15
          rw [decide_eq_true (show (s.length : Int) ≥ (boundOf xs ds).1 from hbnd)]
          refine V_go (4, true) rfl ?_
          refine V_pickF (.n _) rfl rfl rfl ?_   -- 13.16
          refine V_pickT (.n _) rfl rfl rfl ?_   -- 13.17
          refine V_mov (.n _) rfl rfl ?_   -- 13.18
          refine V_go (18, true) rfl ?_
          refine V_call0 (.n _) Tryd.call17 .nil (fun w1 hw1 => awake_spec w1) rfl trivial ?_   -- 13.19
          refine V_pickT (.n _) rfl rfl rfl ?_   -- 13.20
          refine V_asg (.n _) rfl rfl ?_   -- 13.21
          refine V_sub [(0, _), (1, _), (2, _), (6, _), (7, _), (8, _), (9, _), (10, _), (11, _), (12, _), (13, _), (14, _), (15, _), (16, _), (17, _), (24, _), (71, _), (90, _)] ⟨rfl, rfl, rfl, rfl, rfl, rfl, rfl, rfl, rfl, rfl, rfl, rfl, rfl, rfl, rfl, rfl, rfl, rfl, trivial⟩ ?_
          refine V_nil (.inl rfl) ?_
          refine E_then ?_
          refine J_ret ?_
          -- return R4
          refine E_ret1 Tryd.results6 rfl (fun w hw => ?_)
          exact ⟨rfl, hw.sublist (by simp)⟩


theorem bounds_spec (w : World) (A A2 : Option Addr) (c c2 : Nat) (s : List UInt8) (xs : List (List UInt8)) (ds : List Int) (hl : xs.length ≤ 140737488351232) (hl2 : ds.length ≤ 140737488351232) (hs : s.length ≤ 140737488351232) (hr : Rd w A (Ss xs)) (hd : Rd w A2 (I ds)) :
    Calls Tryd.prog 6 #[.string ⟨s.toArray⟩, .slice A xs.length c, .slice A2 ds.length c2] w fun e w' => e = .returned (.bool true) ∧ St w [] w' := by
  cases hv : validW xs with
  | true => exact bounds_yes w A A2 c c2 s xs ds hl hl2 hs hr hd hv
  | false => exact bounds_no w A A2 c c2 s xs ds hl hl2 hs hr hd hv

end Go.Proofs.YtgeahmmepfmcoaaDoor
