/- parts of the proofs of the bath statements -/
import Derived.Test.YtgeahmmepfmcoaaDoorOrder
namespace Go.Proofs.YtgeahmmepfmcoaaDoor
open Go Go.RowKit L
set_option linter.unusedVariables false
set_option linter.unusedSimpArgs false

def pricesR (st : List Int) (ch : Rows2) (be : List (Int × Int)) : List Int × Int := if validP st ch be = false then ([], 2) else if possible (natB be) st.length = false then ([], 7) else (priceT st.length ch (natB be), 0)
theorem pricesR_no {st : List Int} {ch : Rows2} {be : List (Int × Int)} (h : (!validP st ch be) = true) : pricesR st ch be = ([], 2) := by rw [pricesR, if_pos (by simpa using h)]
theorem pricesR_none {st : List Int} {ch : Rows2} {be : List (Int × Int)} (hv : VP st ch be) (h : (!possible (natB be) st.length) = true) : pricesR st ch be = ([], 7) := by
  rw [pricesR, if_neg (by rw [validP_iff.2 hv]; simp), if_pos (by simpa using h)]
theorem pricesR_yes {st : List Int} {ch : Rows2} {be : List (Int × Int)} (hv : VP st ch be) (h : possible (natB be) st.length = true) : pricesR st ch be = (priceT st.length ch (natB be), 0) := by
  rw [pricesR, if_neg (by rw [validP_iff.2 hv]; simp), if_neg (by rw [h]; simp)]
/-- one element of a price table is sound -/
def Cell (n : Nat) (ch : Rows2) (B : Pairs) (ts : List Int) (s i : Nat) : Prop := s.testBit i = true → (s = 2 ^ n - 1 → ts.getD (n * s + i) 0 ≤ 0) ∧ ∀ j, j < n → fol B s j = true → ts.getD (n * s + i) 0 ≤ cst ch i j + ts.getD (n * (s ||| 2 ^ j) + j) 0
noncomputable def soundB (n : Nat) (ch : Rows2) (B : Pairs) (ts : List Int) : Bool := @decide (∀ s, s < 2 ^ n → ∀ i, i < n → Cell n ch B ts s i) (Classical.propDecidable _)
theorem soundB_iff {n : Nat} {ch : Rows2} {B : Pairs} {ts : List Int} : soundB n ch B ts = true ↔ ∀ s, s < 2 ^ n → ∀ i, i < n → Cell n ch B ts s i := by
  unfold soundB; exact @decide_eq_true_iff _ (Classical.propDecidable _)
theorem soundB_P {n : Nat} {ch : Rows2} {B : Pairs} {ts : List Int} : soundB n ch B ts = true ↔ SoundP n ch B ts := by
  have hp := Nat.pow_pos (n := n) (show 0 < 2 by decide)
  rw [soundB_iff]
  constructor
  · intro h
    exact ⟨fun i hi => (h (2 ^ n - 1) (by omega) i hi (by rw [full_bit, decide_eq_true hi])).1 rfl, fun s i j hs hi hj hb hf => (h s hs i hi hb).2 j hj hf⟩
  · intro h s hs i hi hb
    exact ⟨fun e => by subst e; exact h.full i hi, fun j hj hf => h.step s i j hs hi hj hb hf⟩
noncomputable def checkR (st : List Int) (ch : Rows2) (be : List (Int × Int)) (ts : List Int) : Int × Bool × Int :=
  if validP st ch be = false then (0, false, 2) else if ts.length ≠ st.length * 2 ^ st.length then (0, false, 3) else if ts.any out = true then (0, false, 2)
  else if possible (natB be) st.length = false then (0, false, 7) else (leastP st.length st (natB be) ts, soundB st.length ch (natB be) ts, 0)
theorem checkR_1 {st : List Int} {ch : Rows2} {be : List (Int × Int)} {ts : List Int} (h : (!validP st ch be) = true) : checkR st ch be ts = (0, false, 2) := by rw [checkR, if_pos (by simpa using h)]
theorem checkR_2 {st : List Int} {ch : Rows2} {be : List (Int × Int)} {ts : List Int} (hv : VP st ch be) (h : ts.length ≠ st.length * 2 ^ st.length) : checkR st ch be ts = (0, false, 3) := by
  rw [checkR, if_neg (by rw [validP_iff.2 hv]; simp), if_pos h]
theorem checkR_3 {st : List Int} {ch : Rows2} {be : List (Int × Int)} {ts : List Int} (hv : VP st ch be) (h : ¬ ts.length ≠ st.length * 2 ^ st.length) (h2 : ts.any out = true) : checkR st ch be ts = (0, false, 2) := by
  rw [checkR, if_neg (by rw [validP_iff.2 hv]; simp), if_neg h, if_pos h2]
theorem checkR_4 {st : List Int} {ch : Rows2} {be : List (Int × Int)} {ts : List Int} (hv : VP st ch be) (h : ¬ ts.length ≠ st.length * 2 ^ st.length) (h2 : ts.any out = false) (h3 : possible (natB be) st.length = false) : checkR st ch be ts = (0, false, 7) := by
  rw [checkR, if_neg (by rw [validP_iff.2 hv]; simp), if_neg h, if_neg (by rw [h2]; simp), if_pos h3]
theorem checkR_5 {st : List Int} {ch : Rows2} {be : List (Int × Int)} {ts : List Int} (hv : VP st ch be) (h : ¬ ts.length ≠ st.length * 2 ^ st.length) (h2 : ts.any out = false) (h3 : possible (natB be) st.length = true) : checkR st ch be ts = (leastP st.length st (natB be) ts, soundB st.length ch (natB be) ts, 0) := by
  rw [checkR, if_neg (by rw [validP_iff.2 hv]; simp), if_neg h, if_neg (by rw [h2]; simp), if_neg (by rw [h3]; simp)]
theorem iff_next {b b' : Bool} {A : Prop} {P : Nat → Prop} {i : Nat} (h : b = true ↔ A ∧ ∀ k, k < i → P k) (h2 : b' = true ↔ b = true ∧ P i) : b' = true ↔ A ∧ ∀ k, k < i + 1 → P k := by
  rw [h2, h]
  constructor
  · rintro ⟨⟨a, p⟩, q⟩
    refine ⟨a, fun k hk => ?_⟩
    by_cases e : k = i
    · subst e; exact q
    · exact p k (by omega)
  · rintro ⟨a, p⟩
    exact ⟨⟨a, fun k hk => p k (by omega)⟩, p i (by omega)⟩
theorem cell_no {n : Nat} {ch : Rows2} {B : Pairs} {ts : List Int} {s i : Nat} (h : s.testBit i = false) : Cell n ch B ts s i := fun hh => by rw [h] at hh; simp at hh
theorem cell_yes {n : Nat} {ch : Rows2} {B : Pairs} {ts : List Int} {s i : Nat} (h : s.testBit i = true) : Cell n ch B ts s i ↔ (s = 2 ^ n - 1 → ts.getD (n * s + i) 0 ≤ 0) ∧ ∀ j, j < n → fol B s j = true → ts.getD (n * s + i) 0 ≤ cst ch i j + ts.getD (n * (s ||| 2 ^ j) + j) 0 := ⟨fun hc => hc h, fun hc _ => hc⟩

theorem Prices_spec (w : World) (A1 A2 A3 : Option Addr) (c1 c2 c3 : Nat) (vs : List Value) (st : List Int) (ch : Rows2) (be : List (Int × Int)) (hl1 : st.length ≤ 140737488351232) (hl2 : ch.length ≤ 140737488351232) (hl3 : be.length ≤ 140737488351232) (hp : PR w A1 A2 A3 vs st ch be) (hlr : ∀ r ∈ ch, r.length ≤ 140737488351232) : Calls Tryd.prog 36 #[.agg #[.slice A1 st.length c1, .slice A2 ch.length c2, .slice A3 be.length c3]] w fun e w' => ∃ A c D, e = .returned (.tuple #[.slice A (pricesR st ch be).1.length c, .int .i64 (pricesR st ch be).2]) ∧ St w D w' ∧ Rds D A (I (pricesR st ch be).1) := by
  refine calls (args := [.agg #[.slice A1 st.length c1, .slice A2 ch.length c2, .slice A3 be.length c3]]) Tryd.func36 rfl Tryd.ntmps36 (Nat.le_of_ble_eq_true rfl) (St.refl w) ?_
  refine J_seq ?_
  refine J_region ?_
  refine V_box (.n _) rfl rfl rfl (fun _ => trivial) (fun b1 => ?_)   -- 0.0
  refine V_asg (.n _) rfl rfl ?_   -- 0.1
  refine V_asg (.n _) rfl rfl ?_   -- 0.2
  refine V_sub [(0, _), (1, _), (2, _), (3, _)] ⟨rfl, rfl, rfl, rfl, trivial⟩ ?_
  refine V_nil (.inl rfl) ?_
  refine E_then ?_
  refine J_seq ?_
  refine J_block ?_
  refine J_seq ?_
  refine J_region ?_
  refine V_ldN (.n _) Tryd.isAgg51 Tryd.sizeOf51 rfl (by repeat (first | exact List.Mem.head _ | assumption | apply List.Mem.tail)) (by rfl) rfl rfl ?_   -- 1.0
  refine V_call0 (.n _) Tryd.call73 (.cons rfl .nil) (fun w1 hw1 => validP_spec w1 A1 A2 A3 c1 c2 c3 vs st ch be hl1 hl2 hl3 (hp.keep hw1) hlr) rfl trivial ?_   -- 1.1
  refine V_notB (.n _) rfl rfl ?_   -- 1.2
  refine V_asg (.n _) rfl rfl ?_   -- 1.3
  refine V_sub [(0, _), (1, _), (2, _), (3, _), (4, _)] ⟨rfl, rfl, rfl, rfl, rfl, trivial⟩ ?_
  refine V_nil (.inl rfl) ?_
  refine E_then ?_
  refine J_condB rfl (fun h1 => ?_) (fun h1 => ?_)   -- C0
  · skip
    refine J_seq ?_
    refine J_region ?_
    refine V_asg (.n _) rfl rfl ?_   -- 2.0
    refine V_asg (.n _) rfl rfl ?_   -- 2.1
    refine V_sub [(0, _), (1, _), (2, _), (3, _), (4, _)] ⟨rfl, rfl, rfl, rfl, rfl, trivial⟩ ?_
    refine V_nil (.inl rfl) ?_
    refine E_then ?_
    refine J_ret ?_
    refine E_blk_ret ?_
    refine E_then_ret ?_
    -- return R0
    refine E_ret2 Tryd.results36 rfl rfl (fun w hw => ?_)
    exact ⟨none, 0, [], by rw [pricesR_no (by assumption)]; rfl, hw.sub (fun x hx => by simp at hx) (by simp [keys]), by rw [pricesR_no (by assumption)]; exact Rds.nil⟩
  · have hv := validP_iff.1 (show validP st ch be = true by simpa using h1)
    refine J_seq ?_
    refine J_region ?_
    refine V_ldN (.n _) Tryd.isAgg51 Tryd.sizeOf51 rfl (by repeat (first | exact List.Mem.head _ | assumption | apply List.Mem.tail)) (by rfl) rfl rfl ?_   -- 3.0
    refine V_call0 (.n _) Tryd.call74 (.cons rfl .nil) (fun w1 hw1 => possible_spec w1 A1 A2 A3 c1 c2 c3 vs st ch be hl1 hl2 hl3 (hp.keep hw1) hv) rfl trivial ?_   -- 3.1
    refine V_notB (.n _) rfl rfl ?_   -- 3.2
    refine V_asg (.n _) rfl rfl ?_   -- 3.3
    refine V_sub [(0, _), (1, _), (2, _), (3, _), (4, _), (8, _)] ⟨rfl, rfl, rfl, rfl, rfl, rfl, trivial⟩ ?_
    refine V_nil (.inl rfl) ?_
    refine E_then ?_
    refine J_condB rfl (fun h2 => ?_) (fun h2 => ?_)   -- C1
    · skip
      refine J_seq ?_
      refine J_region ?_
      refine V_asg (.n _) rfl rfl ?_   -- 4.0
      refine V_asg (.n _) rfl rfl ?_   -- 4.1
      refine V_sub [(0, _), (1, _), (2, _), (3, _), (4, _), (8, _)] ⟨rfl, rfl, rfl, rfl, rfl, rfl, trivial⟩ ?_
      refine V_nil (.inl rfl) ?_
      refine E_then ?_
      refine J_ret ?_
      refine E_blk_ret ?_
      refine E_then_ret ?_
      -- return R1
      refine E_ret2 Tryd.results36 rfl rfl (fun w hw => ?_)
      exact ⟨none, 0, [], by rw [pricesR_none hv (by assumption)]; rfl, hw.sub (fun x hx => by simp at hx) (by simp [keys]), by rw [pricesR_none hv (by assumption)]; exact Rds.nil⟩
    · have hpo : possible (natB be) st.length = true := by simpa using h2
      refine J_skip ?_
      refine E_blk ?_
      refine E_then ?_
      refine J_seq ?_
      refine J_region ?_
      refine V_ldN (.n _) Tryd.isAgg51 Tryd.sizeOf51 rfl (by repeat (first | exact List.Mem.head _ | assumption | apply List.Mem.tail)) (by rfl) rfl rfl ?_   -- 5.0
      refine V_call (post := fun v D => ∃ b, v = .slice (some ⟨b, 0, none⟩) (st.length * 2 ^ st.length) (st.length * 2 ^ st.length) ∧ D = [.c b 3 (I (priceT st.length ch (natB be)))]) (.n _) Tryd.call76 (.cons rfl .nil) (fun w1 hw1 => prices_spec w1 A1 A2 A3 c1 c2 c3 vs st ch be hl1 hl2 hl3 (hp.keep hw1) hv) rfl trivial ?_
      rintro _ D ⟨bT, rfl, rfl⟩
      refine V_asg (.n _) rfl rfl ?_   -- 5.2
      refine V_asg (.n _) rfl rfl ?_   -- 5.3
      refine V_sub [(0, _), (1, _), (2, _), (3, _), (4, _), (8, _)] ⟨rfl, rfl, rfl, rfl, rfl, rfl, trivial⟩ ?_
      refine V_nil (.inl rfl) ?_
      refine E_then ?_
      refine J_ret ?_
      -- return R2
      refine E_ret2 Tryd.results36 rfl rfl (fun w hw => ?_)
      have hpl : (priceT st.length ch (natB be)).length = st.length * 2 ^ st.length := mkT_length _ _
      exact ⟨some ⟨bT, 0, none⟩, _, [.c bT 3 (I (priceT st.length ch (natB be)))], by rw [pricesR_yes hv hpo]; dsimp only; rw [hpl], hw.sublist (by simp), by rw [pricesR_yes hv hpo]; exact Rds.row⟩

theorem RPrices_spec (w : World) (A1 A2 A3 : Option Addr) (c1 c2 c3 : Nat) (vs : List Value) (st : List Int) (ch : Rows2) (be : List (Int × Int)) (hl1 : st.length ≤ 140737488351232) (hl2 : ch.length ≤ 140737488351232) (hl3 : be.length ≤ 140737488351232) (hp : PR w A1 A2 A3 vs st ch be) (hlr : ∀ r ∈ ch, r.length ≤ 140737488351232) : Calls Tryd.prog 37 #[.agg #[.slice A1 st.length c1, .slice A2 ch.length c2, .slice A3 be.length c3]] w fun e w' => ∃ A c D, e = .returned (.tuple #[.slice A (pricesR st ch be).1.length c, .int .i64 (pricesR st ch be).2]) ∧ St w D w' ∧ Rds D A (I (pricesR st ch be).1) := by
  refine calls (args := [.agg #[.slice A1 st.length c1, .slice A2 ch.length c2, .slice A3 be.length c3]]) Tryd.func37 rfl Tryd.ntmps37 (Nat.le_of_ble_eq_true rfl) (St.refl w) ?_
  refine J_seq ?_
  refine J_region ?_
  refine V_box (.n _) rfl rfl rfl (fun _ => trivial) (fun b1 => ?_)   -- 0.0
  refine V_asg (.n _) rfl rfl ?_   -- 0.1
  refine V_asg (.n _) rfl rfl ?_   -- 0.2
  refine V_sub [(0, _), (1, _), (2, _), (3, _)] ⟨rfl, rfl, rfl, rfl, trivial⟩ ?_
  refine V_nil (.inl rfl) ?_
  refine E_then ?_
  refine J_seq ?_
  refine J_seq ?_
  refine J_region ?_
  refine V_ldN (.n _) Tryd.isAgg48 Tryd.sizeOf48 rfl (by repeat (first | exact List.Mem.head _ | assumption | apply List.Mem.tail)) (by rfl) rfl rfl ?_   -- 1.0
  refine V_call0 (.n _) Tryd.call34 (.cons rfl .nil) (fun w1 hw1 => rvalid_spec w1 A1 A2 A3 c1 c2 c3 vs st ch be hl1 hl2 hl3 (hp.keep hw1) hlr) rfl trivial ?_   -- 1.1
  refine V_notB (.n _) rfl rfl ?_   -- 1.2
  refine V_sub [(0, _), (1, _), (2, _), (3, _), (6, _)] ⟨rfl, rfl, rfl, rfl, rfl, trivial⟩ ?_
  refine V_nil (.inl rfl) ?_
  refine E_then ?_
  refine J_condB rfl (fun h1 => ?_) (fun h1 => ?_)   -- C0
  · skip
    refine J_seq ?_
    refine J_region ?_
    refine V_asg (.n _) rfl rfl ?_   -- 2.0
    refine V_asg (.n _) rfl rfl ?_   -- 2.1
    refine V_sub [(0, _), (1, _), (2, _), (3, _), (6, _)] ⟨rfl, rfl, rfl, rfl, rfl, trivial⟩ ?_
    refine V_nil (.inl rfl) ?_
    refine E_then ?_
    refine J_ret ?_
    refine E_then_ret ?_
    -- return R0
    refine E_ret2 Tryd.results37 rfl rfl (fun w hw => ?_)
    exact ⟨none, 0, [], by rw [pricesR_no (by assumption)]; rfl, hw.sub (fun x hx => by simp at hx) (by simp [keys]), by rw [pricesR_no (by assumption)]; exact Rds.nil⟩
  · have hv := validP_iff.1 (show validP st ch be = true by simpa using h1)
    refine J_skip ?_
    refine E_then ?_
    refine J_seq ?_
    refine J_seq ?_
    refine J_region ?_
    refine V_ldN (.n _) Tryd.isAgg48 Tryd.sizeOf48 rfl (by repeat (first | exact List.Mem.head _ | assumption | apply List.Mem.tail)) (by rfl) rfl rfl ?_   -- 3.0
    refine V_call0 (.n _) Tryd.call81 (.cons rfl .nil) (fun w1 hw1 => rpossible_spec w1 A1 A2 A3 c1 c2 c3 vs st ch be hl1 hl2 hl3 (hp.keep hw1) hv) rfl trivial ?_   -- 3.1
    refine V_notB (.n _) rfl rfl ?_   -- 3.2
    refine V_sub [(0, _), (1, _), (2, _), (3, _), (6, _), (9, _)] ⟨rfl, rfl, rfl, rfl, rfl, rfl, trivial⟩ ?_
    refine V_nil (.inl rfl) ?_
    refine E_then ?_
    refine J_condB rfl (fun h2 => ?_) (fun h2 => ?_)   -- C1
    · skip
      refine J_seq ?_
      refine J_region ?_
      refine V_asg (.n _) rfl rfl ?_   -- 4.0
      refine V_asg (.n _) rfl rfl ?_   -- 4.1
      refine V_sub [(0, _), (1, _), (2, _), (3, _), (6, _), (9, _)] ⟨rfl, rfl, rfl, rfl, rfl, rfl, trivial⟩ ?_
      refine V_nil (.inl rfl) ?_
      refine E_then ?_
      refine J_ret ?_
      refine E_then_ret ?_
      -- return R1
      refine E_ret2 Tryd.results37 rfl rfl (fun w hw => ?_)
      exact ⟨none, 0, [], by rw [pricesR_none hv (by assumption)]; rfl, hw.sub (fun x hx => by simp at hx) (by simp [keys]), by rw [pricesR_none hv (by assumption)]; exact Rds.nil⟩
    · have hpo : possible (natB be) st.length = true := by simpa using h2
      refine J_skip ?_
      refine E_then ?_
      refine J_seq ?_
      refine J_region ?_
      refine V_ldN (.n _) Tryd.isAgg48 Tryd.sizeOf48 rfl (by repeat (first | exact List.Mem.head _ | assumption | apply List.Mem.tail)) (by rfl) rfl rfl ?_   -- 5.0
      refine V_call (post := fun v D => ∃ b, v = .slice (some ⟨b, 0, none⟩) (st.length * 2 ^ st.length) (st.length * 2 ^ st.length) ∧ D = [.c b 3 (I (priceT st.length ch (natB be)))]) (.n _) Tryd.call82 (.cons rfl .nil) (fun w1 hw1 => rprices_spec w1 A1 A2 A3 c1 c2 c3 vs st ch be hl1 hl2 hl3 (hp.keep hw1) hv) rfl trivial ?_
      rintro _ D ⟨bT, rfl, rfl⟩
      refine V_asg (.n _) rfl rfl ?_   -- 5.2
      refine V_asg (.n _) rfl rfl ?_   -- 5.3
      refine V_sub [(0, _), (1, _), (2, _), (3, _), (6, _), (9, _)] ⟨rfl, rfl, rfl, rfl, rfl, rfl, trivial⟩ ?_
      refine V_nil (.inl rfl) ?_
      refine E_then ?_
      refine J_ret ?_
      -- return R2
      refine E_ret2 Tryd.results37 rfl rfl (fun w hw => ?_)
      have hpl : (priceT st.length ch (natB be)).length = st.length * 2 ^ st.length := mkT_length _ _
      exact ⟨some ⟨bT, 0, none⟩, _, [.c bT 3 (I (priceT st.length ch (natB be)))], by rw [pricesR_yes hv hpo]; dsimp only; rw [hpl], hw.sublist (by simp), by rw [pricesR_yes hv hpo]; exact Rds.row⟩

theorem Check_spec (w : World) (A1 A2 A3 : Option Addr) (c1 c2 c3 : Nat) (vs : List Value) (st : List Int) (ch : Rows2) (be : List (Int × Int)) (hl1 : st.length ≤ 140737488351232) (hl2 : ch.length ≤ 140737488351232) (hl3 : be.length ≤ 140737488351232) (hp : PR w A1 A2 A3 vs st ch be) (hlr : ∀ r ∈ ch, r.length ≤ 140737488351232) (AT : Option Addr) (cT : Nat) (ts : List Int) (hlt : ts.length ≤ 140737488351232) (ht : Rd w AT (I ts)) : Calls Tryd.prog 38 #[.agg #[.slice A1 st.length c1, .slice A2 ch.length c2, .slice A3 be.length c3], .slice AT ts.length cT] w fun e w' => e = .returned (.tuple #[.int .i64 (checkR st ch be ts).1, .bool (checkR st ch be ts).2.1, .int .i64 (checkR st ch be ts).2.2]) ∧ St w [] w' := by
  refine calls (args := [.agg #[.slice A1 st.length c1, .slice A2 ch.length c2, .slice A3 be.length c3], .slice AT ts.length cT]) Tryd.func38 rfl Tryd.ntmps38 (Nat.le_of_ble_eq_true rfl) (St.refl w) ?_
  refine J_seq ?_
  refine J_region ?_
  refine V_box (.n _) rfl rfl rfl (fun _ => trivial) (fun b2 => ?_)   -- 0.0
  refine V_asg (.n _) rfl rfl ?_   -- 0.1
  refine V_asg (.n _) rfl rfl ?_   -- 0.2
  refine V_asg (.n _) rfl rfl ?_   -- 0.3
  refine V_sub [(0, _), (1, _), (2, _), (4, _), (5, _), (6, _)] ⟨rfl, rfl, rfl, rfl, rfl, rfl, trivial⟩ ?_
  refine V_nil (.inl rfl) ?_
  refine E_then ?_
  refine J_seq ?_
  refine J_region ?_
  first | refine V_fa0 (.n _) fo51_0 rfl rfl ?_ | refine V_faz (.n _) fo51_0 rfl rfl ?_ | refine V_fa (.n _) fo51_0 rfl rfl ?_   -- 1.0
  refine V_ld (.n _) Tryd.isAgg34 rfl (by repeat (first | exact List.Mem.head _ | assumption | apply List.Mem.tail)) (by rfl) rfl ?_   -- 1.1
  refine V_len (.n _) Tryd.underlying34 rfl rfl ?_   -- 1.2
  refine V_asg (.n _) rfl rfl ?_   -- 1.3
  refine V_sub [(0, _), (1, _), (2, _), (4, _), (5, _), (6, _), (7, _)] ⟨rfl, rfl, rfl, rfl, rfl, rfl, rfl, trivial⟩ ?_
  refine V_nil (.inl rfl) ?_
  refine E_then ?_
  refine J_seq ?_
  refine J_block ?_
  refine J_seq ?_
  refine J_region ?_
  refine V_ldN (.n _) Tryd.isAgg51 Tryd.sizeOf51 rfl (by repeat (first | exact List.Mem.head _ | assumption | apply List.Mem.tail)) (by rfl) rfl rfl ?_   -- 2.0
  refine V_call0 (.n _) Tryd.call73 (.cons rfl .nil) (fun w1 hw1 => validP_spec w1 A1 A2 A3 c1 c2 c3 vs st ch be hl1 hl2 hl3 (hp.keep hw1) hlr) rfl trivial ?_   -- 2.1
  refine V_notB (.n _) rfl rfl ?_   -- 2.2
  refine V_asg (.n _) rfl rfl ?_   -- 2.3
  refine V_sub [(0, _), (1, _), (2, _), (4, _), (5, _), (6, _), (7, _), (17, _)] ⟨rfl, rfl, rfl, rfl, rfl, rfl, rfl, rfl, trivial⟩ ?_
  refine V_nil (.inl rfl) ?_
  refine E_then ?_
  refine J_condB rfl (fun h1 => ?_) (fun h1 => ?_)   -- C0
  · skip
    refine J_seq ?_
    refine J_region ?_
    refine V_asg (.n _) rfl rfl ?_   -- 3.0
    refine V_asg (.n _) rfl rfl ?_   -- 3.1
    refine V_asg (.n _) rfl rfl ?_   -- 3.2
    refine V_sub [(0, _), (1, _), (2, _), (4, _), (5, _), (6, _), (7, _), (17, _)] ⟨rfl, rfl, rfl, rfl, rfl, rfl, rfl, rfl, trivial⟩ ?_
    refine V_nil (.inl rfl) ?_
    refine E_then ?_
    refine J_ret ?_
    refine E_blk_ret ?_
    refine E_then_ret ?_
    -- return R0
    refine E_ret3 Tryd.results38 rfl rfl rfl (fun w hw => ?_)
    exact ⟨by rw [checkR_1 (by assumption)], hw.sub (fun x hx => by simp at hx) (by simp [keys])⟩
  · have hv := validP_iff.1 (show validP st ch be = true by simpa using h1)
    have hn10 := hv.n10
    have hn01 := hv.n1
    have hp1 := pow1024 hn10
    have hN := n2n hn10
    have hp0 := Nat.pow_pos (n := st.length) (show 0 < 2 by decide)
    have hchl := hv.chl
    have hfar : far2 = 1099511627776 := rfl
    refine J_seq ?_
    refine J_region ?_
    refine V_mov (.n _) rfl rfl ?_   -- 4.0
    refine V_len (.n _) Tryd.underlying34 rfl rfl ?_   -- 4.1
    refine V_mov (.n _) rfl rfl ?_   -- 4.2
    refine V_mov (.n _) rfl rfl ?_   -- 4.3
    refine V_shl (.n _) rfl rfl (by omega) (by simp [IntKind.bits]; omega) (by rw [shl_natk]; exact wrap_nat (by omega)) rfl ?_   -- 4.4
    rw [shl_natk]
    refine V_neq (.n _) rfl rfl rfl ?_   -- 4.5
    refine V_asg (.n _) rfl rfl ?_   -- 4.6
    refine V_sub [(0, _), (1, _), (2, _), (4, _), (5, _), (6, _), (7, _), (17, _), (21, _)] ⟨rfl, rfl, rfl, rfl, rfl, rfl, rfl, rfl, rfl, trivial⟩ ?_
    refine V_nil (.inl rfl) ?_
    refine E_then ?_
    refine J_cond rfl (fun h2 => ?_) (fun h2 => ?_)   -- C1
    · skip
      refine J_seq ?_
      refine J_region ?_
      refine V_asg (.n _) rfl rfl ?_   -- 5.0
      refine V_asg (.n _) rfl rfl ?_   -- 5.1
      refine V_asg (.n _) rfl rfl ?_   -- 5.2
      refine V_sub [(0, _), (1, _), (2, _), (4, _), (5, _), (6, _), (7, _), (17, _), (21, _)] ⟨rfl, rfl, rfl, rfl, rfl, rfl, rfl, rfl, rfl, trivial⟩ ?_
      refine V_nil (.inl rfl) ?_
      refine E_then ?_
      refine J_ret ?_
      refine E_blk_ret ?_
      refine E_then_ret ?_
      -- return R1
      refine E_ret3 Tryd.results38 rfl rfl rfl (fun w hw => ?_)
      exact ⟨by rw [checkR_2 hv (by omega)], hw.sub (fun x hx => by simp at hx) (by simp [keys])⟩
    · have htl : ¬ ts.length ≠ st.length * 2 ^ st.length := by omega
      refine J_seq ?_
      refine J_region ?_
      refine V_mov (.n _) rfl rfl ?_   -- 6.0
      refine V_call0 (.n _) Tryd.call62 (.cons rfl .nil) (fun w1 hw1 => within_spec w1 AT cT ts hlt (ht.keep hw1)) rfl trivial ?_   -- 6.1
      refine V_notB (.n _) rfl rfl ?_   -- 6.2
      refine V_asg (.n _) rfl rfl ?_   -- 6.3
      refine V_sub [(0, _), (1, _), (2, _), (4, _), (5, _), (6, _), (7, _), (17, _), (21, _), (28, _)] ⟨rfl, rfl, rfl, rfl, rfl, rfl, rfl, rfl, rfl, rfl, trivial⟩ ?_
      refine V_nil (.inl rfl) ?_
      refine E_then ?_
      refine J_condB rfl (fun h3 => ?_) (fun h3 => ?_)   -- C2
      · skip
        refine J_seq ?_
        refine J_region ?_
        refine V_asg (.n _) rfl rfl ?_   -- 7.0
        refine V_asg (.n _) rfl rfl ?_   -- 7.1
        refine V_asg (.n _) rfl rfl ?_   -- 7.2
        refine V_sub [(0, _), (1, _), (2, _), (4, _), (5, _), (6, _), (7, _), (17, _), (21, _), (28, _)] ⟨rfl, rfl, rfl, rfl, rfl, rfl, rfl, rfl, rfl, rfl, trivial⟩ ?_
        refine V_nil (.inl rfl) ?_
        refine E_then ?_
        refine J_ret ?_
        refine E_blk_ret ?_
        refine E_then_ret ?_
        -- return R2
        refine E_ret3 Tryd.results38 rfl rfl rfl (fun w hw => ?_)
        exact ⟨by rw [checkR_3 hv htl (by simp_all)], hw.sub (fun x hx => by simp at hx) (by simp [keys])⟩
      · have hao : ts.any out = false := by simpa using h3
        refine J_seq ?_
        refine J_region ?_
        refine V_ldN (.n _) Tryd.isAgg51 Tryd.sizeOf51 rfl (by repeat (first | exact List.Mem.head _ | assumption | apply List.Mem.tail)) (by rfl) rfl rfl ?_   -- 8.0
        refine V_call0 (.n _) Tryd.call74 (.cons rfl .nil) (fun w1 hw1 => possible_spec w1 A1 A2 A3 c1 c2 c3 vs st ch be hl1 hl2 hl3 (hp.keep hw1) hv) rfl trivial ?_   -- 8.1
        refine V_notB (.n _) rfl rfl ?_   -- 8.2
        refine V_asg (.n _) rfl rfl ?_   -- 8.3
        refine V_sub [(0, _), (1, _), (2, _), (4, _), (5, _), (6, _), (7, _), (17, _), (21, _), (28, _), (32, _)] ⟨rfl, rfl, rfl, rfl, rfl, rfl, rfl, rfl, rfl, rfl, rfl, trivial⟩ ?_
        refine V_nil (.inl rfl) ?_
        refine E_then ?_
        refine J_condB rfl (fun h4 => ?_) (fun h4 => ?_)   -- C3
        · have hpn : possible (natB be) st.length = false := by simpa using h4
          refine J_seq ?_
          refine J_region ?_
          refine V_asg (.n _) rfl rfl ?_   -- 9.0
          refine V_asg (.n _) rfl rfl ?_   -- 9.1
          refine V_asg (.n _) rfl rfl ?_   -- 9.2
          refine V_sub [(0, _), (1, _), (2, _), (4, _), (5, _), (6, _), (7, _), (17, _), (21, _), (28, _), (32, _)] ⟨rfl, rfl, rfl, rfl, rfl, rfl, rfl, rfl, rfl, rfl, rfl, trivial⟩ ?_
          refine V_nil (.inl rfl) ?_
          refine E_then ?_
          refine J_ret ?_
          refine E_blk_ret ?_
          refine E_then_ret ?_
          -- return R3
          refine E_ret3 Tryd.results38 rfl rfl rfl (fun w hw => ?_)
          exact ⟨by rw [checkR_4 hv htl hao hpn], hw.sub (fun x hx => by simp at hx) (by simp [keys])⟩
        · have hpo : possible (natB be) st.length = true := by simpa using h4
          refine J_skip ?_
          refine E_blk ?_
          refine E_then ?_
          refine J_seq ?_
          refine J_region ?_
          refine V_ldN (.n _) Tryd.isAgg51 Tryd.sizeOf51 rfl (by repeat (first | exact List.Mem.head _ | assumption | apply List.Mem.tail)) (by rfl) rfl rfl ?_   -- 10.0
          refine V_call (post := fun v D => ∃ b, v = .slice (some ⟨b, 0, none⟩) st.length st.length ∧ D = [.c b 3 (I (needT st.length (natB be)))]) (.n _) Tryd.call75 (.cons rfl .nil) (fun w1 hw1 => needs_spec w1 A1 A2 A3 c1 c2 c3 vs st ch be hl1 hl2 hl3 (hp.keep hw1) hv) rfl trivial ?_
          rintro v D ⟨bN, rfl, rfl⟩
          refine V_asg (.n _) rfl rfl ?_   -- 10.2
          refine V_asg (.n _) rfl rfl ?_   -- 10.3
          refine V_sub [(0, _), (1, _), (2, _), (4, _), (5, _), (6, _), (7, _), (8, _), (9, _), (17, _), (21, _), (28, _), (32, _)] ⟨rfl, rfl, rfl, rfl, rfl, rfl, rfl, rfl, rfl, rfl, rfl, rfl, rfl, trivial⟩ ?_
          refine V_nil (.inl rfl) ?_
          refine E_then ?_
          refine J_seq ?_
          refine J_seq ?_
          refine J_region ?_
          refine V_asg (.n _) rfl rfl ?_   -- 11.0
          refine V_sub [(0, _), (1, _), (2, _), (4, _), (5, _), (6, _), (7, _), (8, _), (9, _), (10, _), (17, _), (21, _), (28, _), (32, _)] ⟨rfl, rfl, rfl, rfl, rfl, rfl, rfl, rfl, rfl, rfl, rfl, rfl, rfl, rfl, trivial⟩ ?_
          refine V_nil (.inl rfl) ?_
          refine E_then ?_
          refine J_block ?_
          -- loop L0
          refine J_loop (X := Nat × Bool) (fun x => [(0, (.agg #[.slice A1 st.length c1, .slice A2 ch.length c2, .slice A3 be.length c3])), (1, (.slice AT ts.length cT)), (2, (.pointer (some ⟨b2, 0, none⟩))), (4, (.int .i64 (0))), (5, (.bool false)), (6, (.int .i64 (0))), (7, (.int .i64 (st.length : Nat))), (8, .bool x.2), (9, (.slice (some ⟨bN, 0, none⟩) st.length st.length)), (10, .int .i64 (x.1 : Nat))]) (fun x => [.c bN 3 (I (needT st.length (natB be))), .c b2 51 [.slice A1 st.length c1, .slice A2 ch.length c2, .slice A3 be.length c3]]) (fun x => 1 ≤ x.1 ∧ x.1 ≤ 2 ^ st.length ∧ (x.2 = true ↔ True ∧ ∀ s, s < x.1 → ∀ i, i < st.length → Cell st.length ch (natB be) ts s i)) (fun x => 2 ^ st.length - x.1) (1, true) (by refine ⟨?_, ?_, ?_, ?_, ?_, ?_, ?_, ?_, ?_, ?_, trivial⟩ <;> first | rfl | exact int_eq (by omega)) (fun w h => h) ?_ ?_
          · refine ⟨by omega, by omega, iff_of_true rfl ⟨trivial, fun s hs i hi => ?_⟩⟩
            obtain rfl : s = 0 := by omega
            exact cell_no (Nat.zero_testBit i)
          · rintro ⟨s, z0⟩ ⟨hs1, hs2, hz⟩
            dsimp only at hs1 hs2 hz ⊢
            refine J_seq ?_
            refine J_seq ?_
            refine J_region ?_
            refine V_mov (.n _) rfl rfl ?_   -- 12.0
            refine V_mov (.n _) rfl rfl ?_   -- 12.1
            refine V_shl (.n _) rfl rfl (by omega) (by simp [IntKind.bits]; omega) (by rw [shl_nat]; exact wrap_nat (by omega)) rfl ?_   -- 12.2
            rw [shl_nat]
            refine V_lss (.n _) rfl rfl rfl ?_   -- 12.3
            refine V_sub [(0, _), (1, _), (2, _), (4, _), (5, _), (6, _), (7, _), (8, _), (9, _), (10, _), (41, _)] ⟨rfl, rfl, rfl, rfl, rfl, rfl, rfl, rfl, rfl, rfl, rfl, trivial⟩ ?_
            refine V_nil (.inl rfl) ?_
            refine E_then ?_
            refine J_cond rfl (fun h5 => ?_) (fun h5 => ?_)   -- C4
            · skip
              refine J_skip ?_
              refine E_then ?_
              refine J_seq ?_
              refine J_block ?_
              refine J_seq ?_
              refine J_region ?_
              refine V_mov (.n _) rfl rfl ?_   -- 14.0
              refine V_mov (.n _) rfl rfl ?_   -- 14.1
              refine V_sub [(0, _), (1, _), (2, _), (4, _), (5, _), (6, _), (7, _), (8, _), (9, _), (10, _), (41, _), (44, _), (45, _)] ⟨rfl, rfl, rfl, rfl, rfl, rfl, rfl, rfl, rfl, rfl, rfl, rfl, rfl, trivial⟩ ?_
              refine V_nil (.inl rfl) ?_
              refine E_then ?_
              refine J_block ?_
              -- loop L1
              refine J_loop (X := Nat × Bool) (fun x => [(0, (.agg #[.slice A1 st.length c1, .slice A2 ch.length c2, .slice A3 be.length c3])), (1, (.slice AT ts.length cT)), (2, (.pointer (some ⟨b2, 0, none⟩))), (4, (.int .i64 (0))), (5, (.bool false)), (6, (.int .i64 (0))), (7, (.int .i64 (st.length : Nat))), (8, .bool x.2), (9, (.slice (some ⟨bN, 0, none⟩) st.length st.length)), (10, .int .i64 (s : Nat)), (44, (.int .i64 (st.length : Nat))), (45, .int .i64 (x.1 : Nat))]) (fun x => [.c bN 3 (I (needT st.length (natB be))), .c b2 51 [.slice A1 st.length c1, .slice A2 ch.length c2, .slice A3 be.length c3]]) (fun x => x.1 ≤ st.length ∧ (x.2 = true ↔ z0 = true ∧ ∀ i, i < x.1 → Cell st.length ch (natB be) ts s i)) (fun x => st.length - x.1) (0, z0) (by refine ⟨?_, ?_, ?_, ?_, ?_, ?_, ?_, ?_, ?_, ?_, ?_, ?_, trivial⟩ <;> first | rfl | exact int_eq (by omega)) (fun w h => h) ?_ ?_
              · exact ⟨Nat.zero_le _, ⟨fun h => ⟨h, fun i hi => by omega⟩, fun h => h.1⟩⟩
              · rintro ⟨i, z1⟩ ⟨hi, hz1⟩
                dsimp only at hi hz1 ⊢
                refine J_seq ?_
                refine J_region ?_
                refine V_lss (.n _) rfl rfl rfl ?_   -- 15.0
                refine V_sub [(0, _), (1, _), (2, _), (4, _), (5, _), (6, _), (7, _), (8, _), (9, _), (10, _), (44, _), (45, _), (46, _)] ⟨rfl, rfl, rfl, rfl, rfl, rfl, rfl, rfl, rfl, rfl, rfl, rfl, rfl, trivial⟩ ?_
                refine V_nil (.inl rfl) ?_
                refine E_then ?_
                refine J_seq ?_
                refine J_cond rfl (fun h6 => ?_) (fun h6 => ?_)   -- C5
                · skip
                  refine J_skip ?_
                  refine E_then ?_
                  refine J_seq ?_
                  refine J_block ?_
                  refine J_seq ?_
                  refine J_region ?_
                  refine V_mov (.n _) rfl rfl ?_   -- 16.0
                  refine V_asg (.n _) rfl rfl ?_   -- 16.1
                  refine V_sub [(0, _), (1, _), (2, _), (4, _), (5, _), (6, _), (7, _), (8, _), (9, _), (10, _), (11, _), (44, _), (45, _), (46, _)] ⟨rfl, rfl, rfl, rfl, rfl, rfl, rfl, rfl, rfl, rfl, rfl, rfl, rfl, rfl, trivial⟩ ?_
                  refine V_nil (.inl rfl) ?_
                  refine E_then ?_
                  refine J_seq ?_
                  refine J_seq ?_
                  refine J_region ?_
                  refine V_mov (.n _) rfl rfl ?_   -- 17.0
                  refine V_mov (.n _) rfl rfl ?_   -- 17.1
                  refine V_shr (.n _) rfl rfl (by omega) (by simp [IntKind.bits]; omega) rfl ?_   -- 17.2
                  rw [shr_nat]
                  refine V_and (r := if s.testBit i then 1 else 0) (.n _) rfl rfl (bit_of s i (by omega)) rfl ?_   -- 17.3
                  refine V_eql (.n _) rfl rfl rfl ?_   -- 17.4
                  rw [bit0]
                  refine V_sub [(0, _), (1, _), (2, _), (4, _), (5, _), (6, _), (7, _), (8, _), (9, _), (10, _), (11, _), (44, _), (45, _), (46, _), (52, _)] ⟨rfl, rfl, rfl, rfl, rfl, rfl, rfl, rfl, rfl, rfl, rfl, rfl, rfl, rfl, rfl, trivial⟩ ?_
                  refine V_nil (.inl rfl) ?_
                  refine E_then ?_
                  refine J_condB rfl (fun h7 => ?_) (fun h7 => ?_)   -- C6
                  · have hbit : s.testBit i = false := by simpa using h7
                    refine J_exit ?_
                    refine E_then_exit ?_
                    refine E_blk_hit ?_
                    refine E_then ?_
                    refine J_region ?_
                    refine V_add (.n _) rfl rfl (wrap_ok (by omega)) rfl ?_   -- 27.0
                    refine V_mov (.n _) rfl rfl ?_   -- 27.1
                    refine V_sub [(0, _), (1, _), (2, _), (4, _), (5, _), (6, _), (7, _), (8, _), (9, _), (10, _), (11, _), (44, _), (45, _), (46, _), (52, _)] ⟨rfl, rfl, rfl, rfl, rfl, rfl, rfl, rfl, rfl, rfl, rfl, rfl, rfl, rfl, rfl, trivial⟩ ?_
                    refine V_nil (.inl rfl) ?_
                    -- again L1 0
                    refine E_again (X := Nat × Bool) (KI := fun x => [(0, (.agg #[.slice A1 st.length c1, .slice A2 ch.length c2, .slice A3 be.length c3])), (1, (.slice AT ts.length cT)), (2, (.pointer (some ⟨b2, 0, none⟩))), (4, (.int .i64 (0))), (5, (.bool false)), (6, (.int .i64 (0))), (7, (.int .i64 (st.length : Nat))), (8, .bool x.2), (9, (.slice (some ⟨bN, 0, none⟩) st.length st.length)), (10, .int .i64 (s : Nat)), (44, (.int .i64 (st.length : Nat))), (45, .int .i64 (x.1 : Nat))]) (GI := fun x => [.c bN 3 (I (needT st.length (natB be))), .c b2 51 [.slice A1 st.length c1, .slice A2 ch.length c2, .slice A3 be.length c3]]) (I := fun x => x.1 ≤ st.length ∧ (x.2 = true ↔ z0 = true ∧ ∀ i, i < x.1 → Cell st.length ch (natB be) ts s i)) (μ := fun x => st.length - x.1) (x := (i, z1)) ((i + 1, z1)) ?_ ?_ ?_ (fun w h => h)
                    · show st.length - (i + 1) < st.length - i; omega
                    · dsimp only
                      exact ⟨by omega, iff_next hz1 ⟨fun h => ⟨h, cell_no hbit⟩, fun h => h.1⟩⟩
                    · refine ⟨?_, ?_, ?_, ?_, ?_, ?_, ?_, ?_, ?_, ?_, ?_, ?_, trivial⟩ <;> first | rfl | exact int_eq (by omega) | exact int_eq (by dsimp only; omega)
                  · have hbit : s.testBit i = true := by simpa using h7
                    refine J_skip ?_
                    refine E_then ?_
                    refine J_seq ?_
                    refine J_region ?_
                    refine V_mov (.n _) rfl rfl ?_   -- 18.0
                    refine V_mov (.n _) rfl rfl ?_   -- 18.1
                    refine V_mov (.n _) rfl rfl ?_   -- 18.2
                    have hix0 := ix_lt (n := st.length) (s := s) (i := i) (m := 2 ^ st.length) (by omega) (by omega)
                    refine V_mul (.n _) rfl rfl (by rw [mulcast]; exact wrap_nat (by omega)) rfl ?_   -- 18.3
                    rw [mulcast]
                    refine V_mov (.n _) rfl rfl ?_   -- 18.4
                    refine V_add (.n _) rfl rfl (wrap_ok (by omega)) rfl ?_   -- 18.5
                    rw [show ((st.length * s : Nat) : Int) + (i : Int) = ((st.length * s + i : Nat) : Int) by omega]
                    first | refine V_ix (.n _) Tryd.underlying34 Tryd.sizeOf3 rfl rfl (by omega) (by omega) rfl ?_ | refine V_ixz (.n _) Tryd.underlying34 Tryd.sizeOf3 rfl rfl (hp.h2.rd.pl (by rw [hp.h2.len]; omega)) (by omega) (by omega) rfl ?_ | refine V_ixz (.n _) Tryd.underlying34 Tryd.sizeOf3 rfl rfl (hrr.pl (by simp)) (by omega) (by omega) rfl ?_ | refine V_ixz (.n _) Tryd.underlying34 Tryd.sizeOf3 rfl rfl (hp.h1.pl (by simp)) (by omega) (by omega) rfl ?_ | refine V_ixz (.n _) Tryd.underlying34 Tryd.sizeOf3 rfl rfl (ht.pl (by simp)) (by omega) (by omega) rfl ?_   -- 18.6
                    refine V_ldz (.n _) Tryd.isAgg3 rfl ht (I_getN (i := st.length * s + i) (by omega)) rfl ?_   -- 18.7
                    refine V_asg (.n _) rfl rfl ?_   -- 18.8
                    refine V_sub [(0, _), (1, _), (2, _), (4, _), (5, _), (6, _), (7, _), (8, _), (9, _), (10, _), (11, _), (12, _), (44, _), (45, _), (46, _), (52, _)] ⟨rfl, rfl, rfl, rfl, rfl, rfl, rfl, rfl, rfl, rfl, rfl, rfl, rfl, rfl, rfl, rfl, trivial⟩ ?_
                    refine V_nil (.inl rfl) ?_
                    refine E_then ?_
                    refine J_seq ?_
                    refine J_seq ?_
                    refine J_region ?_
                    refine V_mov (.n _) rfl rfl ?_   -- 19.0
                    refine V_mov (.n _) rfl rfl ?_   -- 19.1
                    refine V_shl (.n _) rfl rfl (by omega) (by simp [IntKind.bits]; omega) (by rw [shl_nat]; exact wrap_nat (by omega)) rfl ?_   -- 19.2
                    rw [shl_nat]
                    refine V_sub1 (.n _) rfl rfl (wrap_ok (by omega)) rfl ?_   -- 19.3
                    refine V_eql (.n _) rfl rfl rfl ?_   -- 19.4
                    refine V_mov (.n _) rfl rfl ?_   -- 19.5
                    refine V_split 66 rfl (fun h8 => ?_) (fun h8 => ?_)   -- guard 19.5
                    · skip
                      refine V_go (5, true) rfl ?_
                      refine V_mov (.n _) rfl rfl ?_   -- 19.6
                      refine V_go (5, true) rfl ?_
                      refine V_gtr (.n _) rfl rfl rfl ?_   -- 19.7
                      refine V_pickT (.n _) rfl rfl rfl ?_   -- 19.8
                      refine V_sub [(0, _), (1, _), (2, _), (4, _), (5, _), (6, _), (7, _), (8, _), (9, _), (10, _), (11, _), (12, _), (44, _), (45, _), (46, _), (52, _), (69, _)] ⟨rfl, rfl, rfl, rfl, rfl, rfl, rfl, rfl, rfl, rfl, rfl, rfl, rfl, rfl, rfl, rfl, rfl, trivial⟩ ?_
                      refine V_nil (.inl rfl) ?_
                      refine E_then ?_
                      -- join C7
                      refine J_cut (X := Bool) (fun z2 => [(0, (.agg #[.slice A1 st.length c1, .slice A2 ch.length c2, .slice A3 be.length c3])), (1, (.slice AT ts.length cT)), (2, (.pointer (some ⟨b2, 0, none⟩))), (4, (.int .i64 (0))), (5, (.bool false)), (6, (.int .i64 (0))), (7, (.int .i64 (st.length : Nat))), (8, .bool z2), (9, (.slice (some ⟨bN, 0, none⟩) st.length st.length)), (10, .int .i64 (s : Nat)), (11, .int .i64 (i : Nat)), (12, (.int .i64 (ts.getD (st.length * s + i) 0))), (44, (.int .i64 (st.length : Nat))), (45, .int .i64 (i : Nat))]) (fun z2 => [.c bN 3 (I (needT st.length (natB be))), .c b2 51 [.slice A1 st.length c1, .slice A2 ch.length c2, .slice A3 be.length c3]]) (fun z2 => z2 = true ↔ z1 = true ∧ (s = 2 ^ st.length - 1 → ts.getD (st.length * s + i) 0 ≤ 0)) ?_ ?_
                      · skip
                        refine J_cond rfl (fun h9 => ?_) (fun h9 => ?_)   -- C7
                        · skip
                          refine J_region ?_
                          refine V_asg (.n _) rfl rfl ?_   -- 20.0
                          refine V_sub [(0, _), (1, _), (2, _), (4, _), (5, _), (6, _), (7, _), (8, _), (9, _), (10, _), (11, _), (12, _), (44, _), (45, _), (46, _), (52, _), (69, _)] ⟨rfl, rfl, rfl, rfl, rfl, rfl, rfl, rfl, rfl, rfl, rfl, rfl, rfl, rfl, rfl, rfl, rfl, trivial⟩ ?_
                          refine V_nil (.inl rfl) ?_
                          -- again C7 0
                          refine E_meet (false) ?_ ?_ (fun w h => h)
                          · refine iff_of_false (by simp) (fun hh => ?_)
                            have := hh.2 (by omega)
                            omega
                          · refine ⟨?_, ?_, ?_, ?_, ?_, ?_, ?_, ?_, ?_, ?_, ?_, ?_, ?_, ?_, trivial⟩ <;> first | rfl | exact int_eq (by omega)
                        · skip
                          refine J_skip ?_
                          -- again C7 1
                          refine E_meet (z1) ?_ ?_ (fun w h => h)
                          · refine ⟨fun h => ⟨h, fun e => by omega⟩, fun h => h.1⟩
                          · refine ⟨?_, ?_, ?_, ?_, ?_, ?_, ?_, ?_, ?_, ?_, ?_, ?_, ?_, ?_, trivial⟩ <;> first | rfl | exact int_eq (by omega)
                      · rintro z2 hz2
                        refine E_then ?_
                        refine J_seq ?_
                        refine J_region ?_
                        refine V_mov (.n _) rfl rfl ?_   -- 21.0
                        refine V_mov (.n _) rfl rfl ?_   -- 21.1
                        refine V_sub [(0, _), (1, _), (2, _), (4, _), (5, _), (6, _), (7, _), (8, _), (9, _), (10, _), (11, _), (12, _), (44, _), (45, _), (70, _), (71, _)] ⟨rfl, rfl, rfl, rfl, rfl, rfl, rfl, rfl, rfl, rfl, rfl, rfl, rfl, rfl, rfl, rfl, trivial⟩ ?_
                        refine V_nil (.inl rfl) ?_
                        refine E_then ?_
                        refine J_block ?_
                        -- loop L2
                        refine J_loop (X := Nat × Bool) (fun x => [(0, (.agg #[.slice A1 st.length c1, .slice A2 ch.length c2, .slice A3 be.length c3])), (1, (.slice AT ts.length cT)), (2, (.pointer (some ⟨b2, 0, none⟩))), (4, (.int .i64 (0))), (5, (.bool false)), (6, (.int .i64 (0))), (7, (.int .i64 (st.length : Nat))), (8, .bool x.2), (9, (.slice (some ⟨bN, 0, none⟩) st.length st.length)), (10, .int .i64 (s : Nat)), (11, .int .i64 (i : Nat)), (12, (.int .i64 (ts.getD (st.length * s + i) 0))), (44, (.int .i64 (st.length : Nat))), (45, .int .i64 (i : Nat)), (70, (.int .i64 (st.length : Nat))), (71, .int .i64 (x.1 : Nat))]) (fun x => [.c bN 3 (I (needT st.length (natB be))), .c b2 51 [.slice A1 st.length c1, .slice A2 ch.length c2, .slice A3 be.length c3]]) (fun x => x.1 ≤ st.length ∧ (x.2 = true ↔ z2 = true ∧ ∀ j, j < x.1 → (fun j => fol (natB be) s j = true → ts.getD (st.length * s + i) 0 ≤ cst ch i j + ts.getD (st.length * (s ||| 2 ^ j) + j) 0) j)) (fun x => st.length - x.1) (0, z2) (by refine ⟨?_, ?_, ?_, ?_, ?_, ?_, ?_, ?_, ?_, ?_, ?_, ?_, ?_, ?_, ?_, ?_, trivial⟩ <;> first | rfl | exact int_eq (by omega)) (fun w h => h) ?_ ?_
                        · exact ⟨Nat.zero_le _, ⟨fun h => ⟨h, fun i hi => by omega⟩, fun h => h.1⟩⟩
                        · rintro ⟨j, z3⟩ ⟨hj, hz3⟩
                          dsimp only at hj hz3 ⊢
                          refine J_seq ?_
                          refine J_region ?_
                          refine V_lss (.n _) rfl rfl rfl ?_   -- 22.0
                          refine V_sub [(0, _), (1, _), (2, _), (4, _), (5, _), (6, _), (7, _), (8, _), (9, _), (10, _), (11, _), (12, _), (44, _), (45, _), (70, _), (71, _), (72, _)] ⟨rfl, rfl, rfl, rfl, rfl, rfl, rfl, rfl, rfl, rfl, rfl, rfl, rfl, rfl, rfl, rfl, rfl, trivial⟩ ?_
                          refine V_nil (.inl rfl) ?_
                          refine E_then ?_
                          refine J_seq ?_
                          refine J_cond rfl (fun h10 => ?_) (fun h10 => ?_)   -- C8
                          · skip
                            refine J_skip ?_
                            refine E_then ?_
                            refine J_seq ?_
                            refine J_block ?_
                            refine J_seq ?_
                            refine J_region ?_
                            refine V_mov (.n _) rfl rfl ?_   -- 23.0
                            refine V_asg (.n _) rfl rfl ?_   -- 23.1
                            refine V_sub [(0, _), (1, _), (2, _), (4, _), (5, _), (6, _), (7, _), (8, _), (9, _), (10, _), (11, _), (12, _), (13, _), (44, _), (45, _), (70, _), (71, _), (72, _)] ⟨rfl, rfl, rfl, rfl, rfl, rfl, rfl, rfl, rfl, rfl, rfl, rfl, rfl, rfl, rfl, rfl, rfl, rfl, trivial⟩ ?_
                            refine V_nil (.inl rfl) ?_
                            refine E_then ?_
                            refine J_seq ?_
                            refine J_draw (Gs := _) (cl := [.p, .p, .p, .e, .p, .p, .p, .r, .p, .p, .r, .p, .p, .r, .p, .p, .p, .p, .p, .p, .p, .p, .p, .p, .r, .p, .p, .p]) (by kernel_rfl) (fun _ _ h => h) ?_
                            refine V_mov (.s _ _ _) rfl rfl ?_   -- 24.0
                            refine V_mov (.s _ _ _) rfl rfl ?_   -- 24.1
                            refine V_mov (.s _ _ _) rfl rfl ?_   -- 24.2
                            refine V_call0 (.s _ _ _) Tryd.call78 (.cons rfl (.cons rfl (.cons rfl .nil))) (fun w1 hw1 => follows_spec w1 (some ⟨bN, 0, none⟩) st.length st.length s j (natB be) hn10 (by omega) (by omega) (hv.needF j) (Rd.own hw1 (t := 3) (by repeat (first | exact List.Mem.head _ | assumption | apply List.Mem.tail)))) rfl (fun _ _ h => h.sublist (by simp)) ?_   -- 24.3
                            refine V_mov (.s _ _ _) rfl rfl ?_   -- 24.4
                            refine V_splitB 78 rfl (fun h11 => ?_) (fun h11 => ?_)   -- guard 24.4
                            · skip
                              refine V_go (4, true) rfl ?_
                              refine V_mov (.s _ _ _) rfl rfl ?_   -- 24.5
                              refine V_go (4, true) rfl ?_
                              first | refine V_fa0 (.s _ _ _) fo51_1 rfl rfl ?_ | refine V_faz (.s _ _ _) fo51_1 rfl rfl ?_ | refine V_fa (.s _ _ _) fo51_1 rfl rfl ?_   -- 24.6
                              refine V_go (4, true) rfl ?_
                              refine V_ld (.s _ _ _) Tryd.isAgg45 rfl (by repeat (first | exact List.Mem.head _ | assumption | apply List.Mem.tail)) (by rfl) rfl ?_   -- 24.7
                              refine V_go (4, true) rfl ?_
                              refine V_mov (.s _ _ _) rfl rfl ?_   -- 24.8
                              refine V_go (4, true) rfl ?_
                              first | refine V_ix (.s _ _ _) Tryd.underlying45 Tryd.sizeOf34 rfl rfl (by omega) (by omega) rfl ?_ | refine V_ixz (.s _ _ _) Tryd.underlying45 Tryd.sizeOf34 rfl rfl (hp.h2.rd.pl (by rw [hp.h2.len]; omega)) (by omega) (by omega) rfl ?_ | refine V_ixz (.s _ _ _) Tryd.underlying45 Tryd.sizeOf34 rfl rfl (hrr.pl (by simp)) (by omega) (by omega) rfl ?_ | refine V_ixz (.s _ _ _) Tryd.underlying45 Tryd.sizeOf34 rfl rfl (hp.h1.pl (by simp)) (by omega) (by omega) rfl ?_ | refine V_ixz (.s _ _ _) Tryd.underlying45 Tryd.sizeOf34 rfl rfl (ht.pl (by simp)) (by omega) (by omega) rfl ?_   -- 24.9
                              refine V_go (4, true) rfl ?_
                              obtain ⟨Ai, ci, hrow, hrr⟩ := hp.h2.get (i := i) (by omega)
                              have hrl := (hv.row (i := i) (by omega)).1
                              refine V_ldz (.s _ _ _) Tryd.isAgg34 rfl hp.h2.rd hrow rfl ?_   -- 24.10
                              refine V_go (4, true) rfl ?_
                              refine V_mov (.s _ _ _) rfl rfl ?_   -- 24.11
                              refine V_go (4, true) rfl ?_
                              first | refine V_ix (.s _ _ _) Tryd.underlying34 Tryd.sizeOf3 rfl rfl (by omega) (by omega) rfl ?_ | refine V_ixz (.s _ _ _) Tryd.underlying34 Tryd.sizeOf3 rfl rfl (hp.h2.rd.pl (by rw [hp.h2.len]; omega)) (by omega) (by omega) rfl ?_ | refine V_ixz (.s _ _ _) Tryd.underlying34 Tryd.sizeOf3 rfl rfl (hrr.pl (by simp)) (by omega) (by omega) rfl ?_ | refine V_ixz (.s _ _ _) Tryd.underlying34 Tryd.sizeOf3 rfl rfl (hp.h1.pl (by simp)) (by omega) (by omega) rfl ?_ | refine V_ixz (.s _ _ _) Tryd.underlying34 Tryd.sizeOf3 rfl rfl (ht.pl (by simp)) (by omega) (by omega) rfl ?_   -- 24.12
                              refine V_go (4, true) rfl ?_
                              refine V_ldz (.s _ _ _) Tryd.isAgg3 rfl hrr (I_getN (i := j) (by omega)) rfl ?_   -- 24.13
                              rw [show (ch.getD i []).getD j 0 = cst ch i j from rfl]
                              have hcb := hv.ok.change i j (by omega) (by omega)
                              refine V_go (4, true) rfl ?_
                              refine V_mov (.s _ _ _) rfl rfl ?_   -- 24.14
                              refine V_go (4, true) rfl ?_
                              refine V_mov (.s _ _ _) rfl rfl ?_   -- 24.15
                              refine V_go (4, true) rfl ?_
                              refine V_mov (.s _ _ _) rfl rfl ?_   -- 24.16
                              refine V_go (4, true) rfl ?_
                              refine V_mov (.s _ _ _) rfl rfl ?_   -- 24.17
                              refine V_go (4, true) rfl ?_
                              have hsj := or_lt (show s < 2 ^ st.length by omega) (show j < st.length by omega)
                              have hsg := or_gt (fol_not (by assumption : fol (natB be) s j = true))
                              have hix := ix_lt (n := st.length) (s := s ||| 2 ^ j) (i := j) (m := 2 ^ st.length) (by omega) hsj
                              have hbt2 := out_bd hao (st.length * (s ||| 2 ^ j) + j)
                              have hbt1 := out_bd hao (st.length * s + i)
                              refine V_shl (.s _ _ _) rfl rfl (by omega) (by simp [IntKind.bits]; omega) (by rw [shl_nat]; exact wrap_nat (lt63 (Nat.pow_lt_pow_right (by decide) (show j < 10 by omega)) (Nat.le_refl _))) rfl ?_   -- 24.18
                              rw [shl_nat]
                              refine V_go (4, true) rfl ?_
                              refine V_or (r := ((s ||| 2 ^ j : Nat) : Int)) (.s _ _ _) rfl rfl (bits_or (by omega) (lt63 (Nat.pow_lt_pow_right (by decide) (show j < 10 by omega)) (Nat.le_refl _))) rfl ?_   -- 24.19
                              refine V_go (4, true) rfl ?_
                              refine V_mul (.s _ _ _) rfl rfl (by rw [mulcast]; exact wrap_nat (by omega)) rfl ?_   -- 24.20
                              rw [mulcast]
                              refine V_go (4, true) rfl ?_
                              refine V_mov (.s _ _ _) rfl rfl ?_   -- 24.21
                              refine V_go (4, true) rfl ?_
                              refine V_add (.s _ _ _) rfl rfl (wrap_ok (by omega)) rfl ?_   -- 24.22
                              rw [show ((st.length * (s ||| 2 ^ j) : Nat) : Int) + (j : Int) = ((st.length * (s ||| 2 ^ j) + j : Nat) : Int) by omega]
                              refine V_go (4, true) rfl ?_
                              first | refine V_ix (.s _ _ _) Tryd.underlying34 Tryd.sizeOf3 rfl rfl (by omega) (by omega) rfl ?_ | refine V_ixz (.s _ _ _) Tryd.underlying34 Tryd.sizeOf3 rfl rfl (hp.h2.rd.pl (by rw [hp.h2.len]; omega)) (by omega) (by omega) rfl ?_ | refine V_ixz (.s _ _ _) Tryd.underlying34 Tryd.sizeOf3 rfl rfl (hrr.pl (by simp)) (by omega) (by omega) rfl ?_ | refine V_ixz (.s _ _ _) Tryd.underlying34 Tryd.sizeOf3 rfl rfl (hp.h1.pl (by simp)) (by omega) (by omega) rfl ?_ | refine V_ixz (.s _ _ _) Tryd.underlying34 Tryd.sizeOf3 rfl rfl (ht.pl (by simp)) (by omega) (by omega) rfl ?_   -- 24.23
                              refine V_go (4, true) rfl ?_
                              refine V_ldz (.s _ _ _) Tryd.isAgg3 rfl ht (I_getN (i := st.length * (s ||| 2 ^ j) + j) (by omega)) rfl ?_   -- 24.24
                              refine V_go (4, true) rfl ?_
                              refine V_add (.s _ _ _) rfl rfl (wrap_ok (by omega)) rfl ?_   -- 24.25
                              refine V_go (4, true) rfl ?_
                              refine V_gtr (.s _ _ _) rfl rfl rfl ?_   -- 24.26
                              refine V_pickT (.s _ _ _) rfl rfl rfl ?_   -- 24.27
                              refine V_sub [(0, _), (1, _), (2, _), (4, _), (5, _), (6, _), (7, _), (8, _), (9, _), (10, _), (11, _), (12, _), (13, _), (44, _), (45, _), (70, _), (71, _), (72, _), (101, _)] ⟨rfl, rfl, rfl, rfl, rfl, rfl, rfl, rfl, rfl, rfl, rfl, rfl, rfl, rfl, rfl, rfl, rfl, rfl, rfl, trivial⟩ ?_
                              refine V_nil (.inr ⟨_, rfl⟩) ?_
                              refine E_then ?_
                              refine J_cond rfl (fun h12 => ?_) (fun h12 => ?_)   -- C9
                              · skip
                                refine J_region ?_
                                refine V_asg (.n _) rfl rfl ?_   -- 25.0
                                refine V_sub [(0, _), (1, _), (2, _), (4, _), (5, _), (6, _), (7, _), (8, _), (9, _), (10, _), (11, _), (12, _), (13, _), (44, _), (45, _), (70, _), (71, _), (72, _), (101, _)] ⟨rfl, rfl, rfl, rfl, rfl, rfl, rfl, rfl, rfl, rfl, rfl, rfl, rfl, rfl, rfl, rfl, rfl, rfl, rfl, trivial⟩ ?_
                                refine V_nil (.inl rfl) ?_
                                refine E_blk ?_
                                refine E_then ?_
                                refine J_region ?_
                                refine V_add (.n _) rfl rfl (wrap_ok (by omega)) rfl ?_   -- 26.0
                                refine V_mov (.n _) rfl rfl ?_   -- 26.1
                                refine V_sub [(0, _), (1, _), (2, _), (4, _), (5, _), (6, _), (7, _), (8, _), (9, _), (10, _), (11, _), (12, _), (13, _), (44, _), (45, _), (70, _), (71, _), (72, _), (101, _)] ⟨rfl, rfl, rfl, rfl, rfl, rfl, rfl, rfl, rfl, rfl, rfl, rfl, rfl, rfl, rfl, rfl, rfl, rfl, rfl, trivial⟩ ?_
                                refine V_nil (.inl rfl) ?_
                                -- again L2 0
                                refine E_again (X := Nat × Bool) (KI := fun x => [(0, (.agg #[.slice A1 st.length c1, .slice A2 ch.length c2, .slice A3 be.length c3])), (1, (.slice AT ts.length cT)), (2, (.pointer (some ⟨b2, 0, none⟩))), (4, (.int .i64 (0))), (5, (.bool false)), (6, (.int .i64 (0))), (7, (.int .i64 (st.length : Nat))), (8, .bool x.2), (9, (.slice (some ⟨bN, 0, none⟩) st.length st.length)), (10, .int .i64 (s : Nat)), (11, .int .i64 (i : Nat)), (12, (.int .i64 (ts.getD (st.length * s + i) 0))), (44, (.int .i64 (st.length : Nat))), (45, .int .i64 (i : Nat)), (70, (.int .i64 (st.length : Nat))), (71, .int .i64 (x.1 : Nat))]) (GI := fun x => [.c bN 3 (I (needT st.length (natB be))), .c b2 51 [.slice A1 st.length c1, .slice A2 ch.length c2, .slice A3 be.length c3]]) (I := fun x => x.1 ≤ st.length ∧ (x.2 = true ↔ z2 = true ∧ ∀ j, j < x.1 → (fun j => fol (natB be) s j = true → ts.getD (st.length * s + i) 0 ≤ cst ch i j + ts.getD (st.length * (s ||| 2 ^ j) + j) 0) j)) (μ := fun x => st.length - x.1) (x := (j, z3)) ((j + 1, false)) ?_ ?_ ?_ (fun w h => h)
                                · show st.length - (j + 1) < st.length - j; omega
                                · dsimp only
                                  refine ⟨by omega, iff_next hz3 (iff_of_false (by simp) (fun hh => ?_))⟩
                                  have := hh.2 (by assumption)
                                  omega
                                · refine ⟨?_, ?_, ?_, ?_, ?_, ?_, ?_, ?_, ?_, ?_, ?_, ?_, ?_, ?_, ?_, ?_, trivial⟩ <;> first | rfl | exact int_eq (by omega) | exact int_eq (by dsimp only; omega)
                              · skip
                                refine J_skip ?_
                                refine E_blk ?_
                                refine E_then ?_
                                refine J_region ?_
                                refine V_add (.n _) rfl rfl (wrap_ok (by omega)) rfl ?_   -- 26.0
                                refine V_mov (.n _) rfl rfl ?_   -- 26.1
                                refine V_sub [(0, _), (1, _), (2, _), (4, _), (5, _), (6, _), (7, _), (8, _), (9, _), (10, _), (11, _), (12, _), (13, _), (44, _), (45, _), (70, _), (71, _), (72, _), (101, _)] ⟨rfl, rfl, rfl, rfl, rfl, rfl, rfl, rfl, rfl, rfl, rfl, rfl, rfl, rfl, rfl, rfl, rfl, rfl, rfl, trivial⟩ ?_
                                refine V_nil (.inl rfl) ?_
                                -- again L2 1
                                refine E_again (X := Nat × Bool) (KI := fun x => [(0, (.agg #[.slice A1 st.length c1, .slice A2 ch.length c2, .slice A3 be.length c3])), (1, (.slice AT ts.length cT)), (2, (.pointer (some ⟨b2, 0, none⟩))), (4, (.int .i64 (0))), (5, (.bool false)), (6, (.int .i64 (0))), (7, (.int .i64 (st.length : Nat))), (8, .bool x.2), (9, (.slice (some ⟨bN, 0, none⟩) st.length st.length)), (10, .int .i64 (s : Nat)), (11, .int .i64 (i : Nat)), (12, (.int .i64 (ts.getD (st.length * s + i) 0))), (44, (.int .i64 (st.length : Nat))), (45, .int .i64 (i : Nat)), (70, (.int .i64 (st.length : Nat))), (71, .int .i64 (x.1 : Nat))]) (GI := fun x => [.c bN 3 (I (needT st.length (natB be))), .c b2 51 [.slice A1 st.length c1, .slice A2 ch.length c2, .slice A3 be.length c3]]) (I := fun x => x.1 ≤ st.length ∧ (x.2 = true ↔ z2 = true ∧ ∀ j, j < x.1 → (fun j => fol (natB be) s j = true → ts.getD (st.length * s + i) 0 ≤ cst ch i j + ts.getD (st.length * (s ||| 2 ^ j) + j) 0) j)) (μ := fun x => st.length - x.1) (x := (j, z3)) ((j + 1, z3)) ?_ ?_ ?_ (fun w h => h)
                                · show st.length - (j + 1) < st.length - j; omega
                                · dsimp only
                                  refine ⟨by omega, iff_next hz3 ⟨fun h => ⟨h, fun hf => by first | omega | simp_all⟩, fun h => h.1⟩⟩
                                · refine ⟨?_, ?_, ?_, ?_, ?_, ?_, ?_, ?_, ?_, ?_, ?_, ?_, ?_, ?_, ?_, ?_, trivial⟩ <;> first | rfl | exact int_eq (by omega) | exact int_eq (by dsimp only; omega)
                            · skip
                              refine V_pass (.s _ _ _) (4, true) rfl rfl ?_   -- 24.5
                              refine V_pass (.s _ _ _) (4, true) rfl rfl ?_   -- 24.6
                              refine V_pass (.s _ _ _) (4, true) rfl rfl ?_   -- 24.7
                              refine V_pass (.s _ _ _) (4, true) rfl rfl ?_   -- 24.8
                              refine V_pass (.s _ _ _) (4, true) rfl rfl ?_   -- 24.9
                              refine V_pass (.s _ _ _) (4, true) rfl rfl ?_   -- 24.10
                              refine V_pass (.s _ _ _) (4, true) rfl rfl ?_   -- 24.11
                              refine V_pass (.s _ _ _) (4, true) rfl rfl ?_   -- 24.12
                              refine V_pass (.s _ _ _) (4, true) rfl rfl ?_   -- 24.13
                              refine V_pass (.s _ _ _) (4, true) rfl rfl ?_   -- 24.14
                              refine V_pass (.s _ _ _) (4, true) rfl rfl ?_   -- 24.15
                              refine V_pass (.s _ _ _) (4, true) rfl rfl ?_   -- 24.16
                              refine V_pass (.s _ _ _) (4, true) rfl rfl ?_   -- 24.17
                              refine V_pass (.s _ _ _) (4, true) rfl rfl ?_   -- 24.18
                              refine V_pass (.s _ _ _) (4, true) rfl rfl ?_   -- 24.19
                              refine V_pass (.s _ _ _) (4, true) rfl rfl ?_   -- 24.20
                              refine V_pass (.s _ _ _) (4, true) rfl rfl ?_   -- 24.21
                              refine V_pass (.s _ _ _) (4, true) rfl rfl ?_   -- 24.22
                              refine V_pass (.s _ _ _) (4, true) rfl rfl ?_   -- 24.23
                              refine V_pass (.s _ _ _) (4, true) rfl rfl ?_   -- 24.24
                              refine V_pass (.s _ _ _) (4, true) rfl rfl ?_   -- 24.25
                              refine V_pass (.s _ _ _) (4, true) rfl rfl ?_   -- 24.26
                              refine V_pickF (.s _ _ _) rfl rfl rfl ?_   -- 24.27
                              refine V_sub [(0, _), (1, _), (2, _), (4, _), (5, _), (6, _), (7, _), (8, _), (9, _), (10, _), (11, _), (12, _), (13, _), (44, _), (45, _), (70, _), (71, _), (72, _), (101, _)] ⟨rfl, rfl, rfl, rfl, rfl, rfl, rfl, rfl, rfl, rfl, rfl, rfl, rfl, rfl, rfl, rfl, rfl, rfl, rfl, trivial⟩ ?_
                              refine V_nil (.inr ⟨_, rfl⟩) ?_
                              refine E_then ?_
                              refine J_condF rfl ?_
                              refine J_skip ?_
                              refine E_blk ?_
                              refine E_then ?_
                              refine J_region ?_
                              refine V_add (.n _) rfl rfl (wrap_ok (by omega)) rfl ?_   -- 26.0
                              refine V_mov (.n _) rfl rfl ?_   -- 26.1
                              refine V_sub [(0, _), (1, _), (2, _), (4, _), (5, _), (6, _), (7, _), (8, _), (9, _), (10, _), (11, _), (12, _), (13, _), (44, _), (45, _), (70, _), (71, _), (72, _), (101, _)] ⟨rfl, rfl, rfl, rfl, rfl, rfl, rfl, rfl, rfl, rfl, rfl, rfl, rfl, rfl, rfl, rfl, rfl, rfl, rfl, trivial⟩ ?_
                              refine V_nil (.inl rfl) ?_
                              -- again L2 2
                              refine E_again (X := Nat × Bool) (KI := fun x => [(0, (.agg #[.slice A1 st.length c1, .slice A2 ch.length c2, .slice A3 be.length c3])), (1, (.slice AT ts.length cT)), (2, (.pointer (some ⟨b2, 0, none⟩))), (4, (.int .i64 (0))), (5, (.bool false)), (6, (.int .i64 (0))), (7, (.int .i64 (st.length : Nat))), (8, .bool x.2), (9, (.slice (some ⟨bN, 0, none⟩) st.length st.length)), (10, .int .i64 (s : Nat)), (11, .int .i64 (i : Nat)), (12, (.int .i64 (ts.getD (st.length * s + i) 0))), (44, (.int .i64 (st.length : Nat))), (45, .int .i64 (i : Nat)), (70, (.int .i64 (st.length : Nat))), (71, .int .i64 (x.1 : Nat))]) (GI := fun x => [.c bN 3 (I (needT st.length (natB be))), .c b2 51 [.slice A1 st.length c1, .slice A2 ch.length c2, .slice A3 be.length c3]]) (I := fun x => x.1 ≤ st.length ∧ (x.2 = true ↔ z2 = true ∧ ∀ j, j < x.1 → (fun j => fol (natB be) s j = true → ts.getD (st.length * s + i) 0 ≤ cst ch i j + ts.getD (st.length * (s ||| 2 ^ j) + j) 0) j)) (μ := fun x => st.length - x.1) (x := (j, z3)) ((j + 1, z3)) ?_ ?_ ?_ (fun w h => h)
                              · show st.length - (j + 1) < st.length - j; omega
                              · dsimp only
                                refine ⟨by omega, iff_next hz3 ⟨fun h => ⟨h, fun hf => by first | omega | simp_all⟩, fun h => h.1⟩⟩
                              · refine ⟨?_, ?_, ?_, ?_, ?_, ?_, ?_, ?_, ?_, ?_, ?_, ?_, ?_, ?_, ?_, ?_, trivial⟩ <;> first | rfl | exact int_eq (by omega) | exact int_eq (by dsimp only; omega)
                          · skip
                            refine J_exit ?_
                            refine E_then_exit ?_
                            refine E_lp_exit ?_
                            refine E_blk_hit ?_
                            refine E_blk ?_
                            refine E_then ?_
                            refine J_region ?_
                            refine V_add (.n _) rfl rfl (wrap_ok (by omega)) rfl ?_   -- 27.0
                            refine V_mov (.n _) rfl rfl ?_   -- 27.1
                            refine V_sub [(0, _), (1, _), (2, _), (4, _), (5, _), (6, _), (7, _), (8, _), (9, _), (10, _), (11, _), (12, _), (44, _), (45, _), (70, _), (71, _), (72, _)] ⟨rfl, rfl, rfl, rfl, rfl, rfl, rfl, rfl, rfl, rfl, rfl, rfl, rfl, rfl, rfl, rfl, rfl, trivial⟩ ?_
                            refine V_nil (.inl rfl) ?_
                            -- again L1 1
                            obtain rfl : j = st.length := by omega
                            refine E_again (X := Nat × Bool) (KI := fun x => [(0, (.agg #[.slice A1 st.length c1, .slice A2 ch.length c2, .slice A3 be.length c3])), (1, (.slice AT ts.length cT)), (2, (.pointer (some ⟨b2, 0, none⟩))), (4, (.int .i64 (0))), (5, (.bool false)), (6, (.int .i64 (0))), (7, (.int .i64 (st.length : Nat))), (8, .bool x.2), (9, (.slice (some ⟨bN, 0, none⟩) st.length st.length)), (10, .int .i64 (s : Nat)), (44, (.int .i64 (st.length : Nat))), (45, .int .i64 (x.1 : Nat))]) (GI := fun x => [.c bN 3 (I (needT st.length (natB be))), .c b2 51 [.slice A1 st.length c1, .slice A2 ch.length c2, .slice A3 be.length c3]]) (I := fun x => x.1 ≤ st.length ∧ (x.2 = true ↔ z0 = true ∧ ∀ i, i < x.1 → Cell st.length ch (natB be) ts s i)) (μ := fun x => st.length - x.1) (x := (i, z1)) ((i + 1, z3)) ?_ ?_ ?_ (fun w h => h)
                            · show st.length - (i + 1) < st.length - i; omega
                            · dsimp only
                              refine ⟨by omega, iff_next hz1 ?_⟩
                              rw [hz3, hz2, cell_yes hbit, and_assoc]
                            · refine ⟨?_, ?_, ?_, ?_, ?_, ?_, ?_, ?_, ?_, ?_, ?_, ?_, trivial⟩ <;> first | rfl | exact int_eq (by omega) | exact int_eq (by dsimp only; omega)
                    · skip
                      refine V_pass (.n .p) (5, true) rfl rfl ?_   -- 19.6
                      refine V_pass (.n .p) (5, true) rfl rfl ?_   -- 19.7
                      refine V_pickF (.n _) rfl rfl rfl ?_   -- 19.8
                      refine V_sub [(0, _), (1, _), (2, _), (4, _), (5, _), (6, _), (7, _), (8, _), (9, _), (10, _), (11, _), (12, _), (44, _), (45, _), (46, _), (52, _), (69, _)] ⟨rfl, rfl, rfl, rfl, rfl, rfl, rfl, rfl, rfl, rfl, rfl, rfl, rfl, rfl, rfl, rfl, rfl, trivial⟩ ?_
                      refine V_nil (.inl rfl) ?_
                      refine E_then ?_
                      -- join C7
                      refine J_cut (X := Bool) (fun z2 => [(0, (.agg #[.slice A1 st.length c1, .slice A2 ch.length c2, .slice A3 be.length c3])), (1, (.slice AT ts.length cT)), (2, (.pointer (some ⟨b2, 0, none⟩))), (4, (.int .i64 (0))), (5, (.bool false)), (6, (.int .i64 (0))), (7, (.int .i64 (st.length : Nat))), (8, .bool z2), (9, (.slice (some ⟨bN, 0, none⟩) st.length st.length)), (10, .int .i64 (s : Nat)), (11, .int .i64 (i : Nat)), (12, (.int .i64 (ts.getD (st.length * s + i) 0))), (44, (.int .i64 (st.length : Nat))), (45, .int .i64 (i : Nat))]) (fun z2 => [.c bN 3 (I (needT st.length (natB be))), .c b2 51 [.slice A1 st.length c1, .slice A2 ch.length c2, .slice A3 be.length c3]]) (fun z2 => z2 = true ↔ z1 = true ∧ (s = 2 ^ st.length - 1 → ts.getD (st.length * s + i) 0 ≤ 0)) ?_ ?_
                      · skip
                        refine J_condF rfl ?_
                        refine J_skip ?_
                        -- again C7 0
                        refine E_meet (z1) ?_ ?_ (fun w h => h)
                        · refine ⟨fun h => ⟨h, fun e => by omega⟩, fun h => h.1⟩
                        · refine ⟨?_, ?_, ?_, ?_, ?_, ?_, ?_, ?_, ?_, ?_, ?_, ?_, ?_, ?_, trivial⟩ <;> first | rfl | exact int_eq (by omega)
                      · rintro z2 hz2
                        refine E_then ?_
                        refine J_seq ?_
                        refine J_region ?_
                        refine V_mov (.n _) rfl rfl ?_   -- 21.0
                        refine V_mov (.n _) rfl rfl ?_   -- 21.1
                        refine V_sub [(0, _), (1, _), (2, _), (4, _), (5, _), (6, _), (7, _), (8, _), (9, _), (10, _), (11, _), (12, _), (44, _), (45, _), (70, _), (71, _)] ⟨rfl, rfl, rfl, rfl, rfl, rfl, rfl, rfl, rfl, rfl, rfl, rfl, rfl, rfl, rfl, rfl, trivial⟩ ?_
                        refine V_nil (.inl rfl) ?_
                        refine E_then ?_
                        refine J_block ?_
                        -- loop L2
                        refine J_loop (X := Nat × Bool) (fun x => [(0, (.agg #[.slice A1 st.length c1, .slice A2 ch.length c2, .slice A3 be.length c3])), (1, (.slice AT ts.length cT)), (2, (.pointer (some ⟨b2, 0, none⟩))), (4, (.int .i64 (0))), (5, (.bool false)), (6, (.int .i64 (0))), (7, (.int .i64 (st.length : Nat))), (8, .bool x.2), (9, (.slice (some ⟨bN, 0, none⟩) st.length st.length)), (10, .int .i64 (s : Nat)), (11, .int .i64 (i : Nat)), (12, (.int .i64 (ts.getD (st.length * s + i) 0))), (44, (.int .i64 (st.length : Nat))), (45, .int .i64 (i : Nat)), (70, (.int .i64 (st.length : Nat))), (71, .int .i64 (x.1 : Nat))]) (fun x => [.c bN 3 (I (needT st.length (natB be))), .c b2 51 [.slice A1 st.length c1, .slice A2 ch.length c2, .slice A3 be.length c3]]) (fun x => x.1 ≤ st.length ∧ (x.2 = true ↔ z2 = true ∧ ∀ j, j < x.1 → (fun j => fol (natB be) s j = true → ts.getD (st.length * s + i) 0 ≤ cst ch i j + ts.getD (st.length * (s ||| 2 ^ j) + j) 0) j)) (fun x => st.length - x.1) (0, z2) (by refine ⟨?_, ?_, ?_, ?_, ?_, ?_, ?_, ?_, ?_, ?_, ?_, ?_, ?_, ?_, ?_, ?_, trivial⟩ <;> first | rfl | exact int_eq (by omega)) (fun w h => h) ?_ ?_
                        · exact ⟨Nat.zero_le _, ⟨fun h => ⟨h, fun i hi => by omega⟩, fun h => h.1⟩⟩
                        · rintro ⟨j, z3⟩ ⟨hj, hz3⟩
                          dsimp only at hj hz3 ⊢
                          refine J_seq ?_
                          refine J_region ?_
                          refine V_lss (.n _) rfl rfl rfl ?_   -- 22.0
                          refine V_sub [(0, _), (1, _), (2, _), (4, _), (5, _), (6, _), (7, _), (8, _), (9, _), (10, _), (11, _), (12, _), (44, _), (45, _), (70, _), (71, _), (72, _)] ⟨rfl, rfl, rfl, rfl, rfl, rfl, rfl, rfl, rfl, rfl, rfl, rfl, rfl, rfl, rfl, rfl, rfl, trivial⟩ ?_
                          refine V_nil (.inl rfl) ?_
                          refine E_then ?_
                          refine J_seq ?_
                          refine J_cond rfl (fun h13 => ?_) (fun h13 => ?_)   -- C8
                          · skip
                            refine J_skip ?_
                            refine E_then ?_
                            refine J_seq ?_
                            refine J_block ?_
                            refine J_seq ?_
                            refine J_region ?_
                            refine V_mov (.n _) rfl rfl ?_   -- 23.0
                            refine V_asg (.n _) rfl rfl ?_   -- 23.1
                            refine V_sub [(0, _), (1, _), (2, _), (4, _), (5, _), (6, _), (7, _), (8, _), (9, _), (10, _), (11, _), (12, _), (13, _), (44, _), (45, _), (70, _), (71, _), (72, _)] ⟨rfl, rfl, rfl, rfl, rfl, rfl, rfl, rfl, rfl, rfl, rfl, rfl, rfl, rfl, rfl, rfl, rfl, rfl, trivial⟩ ?_
                            refine V_nil (.inl rfl) ?_
                            refine E_then ?_
                            refine J_seq ?_
                            refine J_draw (Gs := _) (cl := [.p, .p, .p, .e, .p, .p, .p, .r, .p, .p, .r, .p, .p, .r, .p, .p, .p, .p, .p, .p, .p, .p, .p, .p, .r, .p, .p, .p]) (by kernel_rfl) (fun _ _ h => h) ?_
                            refine V_mov (.s _ _ _) rfl rfl ?_   -- 24.0
                            refine V_mov (.s _ _ _) rfl rfl ?_   -- 24.1
                            refine V_mov (.s _ _ _) rfl rfl ?_   -- 24.2
                            refine V_call0 (.s _ _ _) Tryd.call78 (.cons rfl (.cons rfl (.cons rfl .nil))) (fun w1 hw1 => follows_spec w1 (some ⟨bN, 0, none⟩) st.length st.length s j (natB be) hn10 (by omega) (by omega) (hv.needF j) (Rd.own hw1 (t := 3) (by repeat (first | exact List.Mem.head _ | assumption | apply List.Mem.tail)))) rfl (fun _ _ h => h.sublist (by simp)) ?_   -- 24.3
                            refine V_mov (.s _ _ _) rfl rfl ?_   -- 24.4
                            refine V_splitB 78 rfl (fun h14 => ?_) (fun h14 => ?_)   -- guard 24.4
                            · skip
                              refine V_go (4, true) rfl ?_
                              refine V_mov (.s _ _ _) rfl rfl ?_   -- 24.5
                              refine V_go (4, true) rfl ?_
                              first | refine V_fa0 (.s _ _ _) fo51_1 rfl rfl ?_ | refine V_faz (.s _ _ _) fo51_1 rfl rfl ?_ | refine V_fa (.s _ _ _) fo51_1 rfl rfl ?_   -- 24.6
                              refine V_go (4, true) rfl ?_
                              refine V_ld (.s _ _ _) Tryd.isAgg45 rfl (by repeat (first | exact List.Mem.head _ | assumption | apply List.Mem.tail)) (by rfl) rfl ?_   -- 24.7
                              refine V_go (4, true) rfl ?_
                              refine V_mov (.s _ _ _) rfl rfl ?_   -- 24.8
                              refine V_go (4, true) rfl ?_
                              first | refine V_ix (.s _ _ _) Tryd.underlying45 Tryd.sizeOf34 rfl rfl (by omega) (by omega) rfl ?_ | refine V_ixz (.s _ _ _) Tryd.underlying45 Tryd.sizeOf34 rfl rfl (hp.h2.rd.pl (by rw [hp.h2.len]; omega)) (by omega) (by omega) rfl ?_ | refine V_ixz (.s _ _ _) Tryd.underlying45 Tryd.sizeOf34 rfl rfl (hrr.pl (by simp)) (by omega) (by omega) rfl ?_ | refine V_ixz (.s _ _ _) Tryd.underlying45 Tryd.sizeOf34 rfl rfl (hp.h1.pl (by simp)) (by omega) (by omega) rfl ?_ | refine V_ixz (.s _ _ _) Tryd.underlying45 Tryd.sizeOf34 rfl rfl (ht.pl (by simp)) (by omega) (by omega) rfl ?_   -- 24.9
                              refine V_go (4, true) rfl ?_
                              obtain ⟨Ai, ci, hrow, hrr⟩ := hp.h2.get (i := i) (by omega)
                              have hrl := (hv.row (i := i) (by omega)).1
                              refine V_ldz (.s _ _ _) Tryd.isAgg34 rfl hp.h2.rd hrow rfl ?_   -- 24.10
                              refine V_go (4, true) rfl ?_
                              refine V_mov (.s _ _ _) rfl rfl ?_   -- 24.11
                              refine V_go (4, true) rfl ?_
                              first | refine V_ix (.s _ _ _) Tryd.underlying34 Tryd.sizeOf3 rfl rfl (by omega) (by omega) rfl ?_ | refine V_ixz (.s _ _ _) Tryd.underlying34 Tryd.sizeOf3 rfl rfl (hp.h2.rd.pl (by rw [hp.h2.len]; omega)) (by omega) (by omega) rfl ?_ | refine V_ixz (.s _ _ _) Tryd.underlying34 Tryd.sizeOf3 rfl rfl (hrr.pl (by simp)) (by omega) (by omega) rfl ?_ | refine V_ixz (.s _ _ _) Tryd.underlying34 Tryd.sizeOf3 rfl rfl (hp.h1.pl (by simp)) (by omega) (by omega) rfl ?_ | refine V_ixz (.s _ _ _) Tryd.underlying34 Tryd.sizeOf3 rfl rfl (ht.pl (by simp)) (by omega) (by omega) rfl ?_   -- 24.12
                              refine V_go (4, true) rfl ?_
                              refine V_ldz (.s _ _ _) Tryd.isAgg3 rfl hrr (I_getN (i := j) (by omega)) rfl ?_   -- 24.13
                              rw [show (ch.getD i []).getD j 0 = cst ch i j from rfl]
                              have hcb := hv.ok.change i j (by omega) (by omega)
                              refine V_go (4, true) rfl ?_
                              refine V_mov (.s _ _ _) rfl rfl ?_   -- 24.14
                              refine V_go (4, true) rfl ?_
                              refine V_mov (.s _ _ _) rfl rfl ?_   -- 24.15
                              refine V_go (4, true) rfl ?_
                              refine V_mov (.s _ _ _) rfl rfl ?_   -- 24.16
                              refine V_go (4, true) rfl ?_
                              refine V_mov (.s _ _ _) rfl rfl ?_   -- 24.17
                              refine V_go (4, true) rfl ?_
                              have hsj := or_lt (show s < 2 ^ st.length by omega) (show j < st.length by omega)
                              have hsg := or_gt (fol_not (by assumption : fol (natB be) s j = true))
                              have hix := ix_lt (n := st.length) (s := s ||| 2 ^ j) (i := j) (m := 2 ^ st.length) (by omega) hsj
                              have hbt2 := out_bd hao (st.length * (s ||| 2 ^ j) + j)
                              have hbt1 := out_bd hao (st.length * s + i)
                              refine V_shl (.s _ _ _) rfl rfl (by omega) (by simp [IntKind.bits]; omega) (by rw [shl_nat]; exact wrap_nat (lt63 (Nat.pow_lt_pow_right (by decide) (show j < 10 by omega)) (Nat.le_refl _))) rfl ?_   -- 24.18
                              rw [shl_nat]
                              refine V_go (4, true) rfl ?_
                              refine V_or (r := ((s ||| 2 ^ j : Nat) : Int)) (.s _ _ _) rfl rfl (bits_or (by omega) (lt63 (Nat.pow_lt_pow_right (by decide) (show j < 10 by omega)) (Nat.le_refl _))) rfl ?_   -- 24.19
                              refine V_go (4, true) rfl ?_
                              refine V_mul (.s _ _ _) rfl rfl (by rw [mulcast]; exact wrap_nat (by omega)) rfl ?_   -- 24.20
                              rw [mulcast]
                              refine V_go (4, true) rfl ?_
                              refine V_mov (.s _ _ _) rfl rfl ?_   -- 24.21
                              refine V_go (4, true) rfl ?_
                              refine V_add (.s _ _ _) rfl rfl (wrap_ok (by omega)) rfl ?_   -- 24.22
                              rw [show ((st.length * (s ||| 2 ^ j) : Nat) : Int) + (j : Int) = ((st.length * (s ||| 2 ^ j) + j : Nat) : Int) by omega]
                              refine V_go (4, true) rfl ?_
                              first | refine V_ix (.s _ _ _) Tryd.underlying34 Tryd.sizeOf3 rfl rfl (by omega) (by omega) rfl ?_ | refine V_ixz (.s _ _ _) Tryd.underlying34 Tryd.sizeOf3 rfl rfl (hp.h2.rd.pl (by rw [hp.h2.len]; omega)) (by omega) (by omega) rfl ?_ | refine V_ixz (.s _ _ _) Tryd.underlying34 Tryd.sizeOf3 rfl rfl (hrr.pl (by simp)) (by omega) (by omega) rfl ?_ | refine V_ixz (.s _ _ _) Tryd.underlying34 Tryd.sizeOf3 rfl rfl (hp.h1.pl (by simp)) (by omega) (by omega) rfl ?_ | refine V_ixz (.s _ _ _) Tryd.underlying34 Tryd.sizeOf3 rfl rfl (ht.pl (by simp)) (by omega) (by omega) rfl ?_   -- 24.23
                              refine V_go (4, true) rfl ?_
                              refine V_ldz (.s _ _ _) Tryd.isAgg3 rfl ht (I_getN (i := st.length * (s ||| 2 ^ j) + j) (by omega)) rfl ?_   -- 24.24
                              refine V_go (4, true) rfl ?_
                              refine V_add (.s _ _ _) rfl rfl (wrap_ok (by omega)) rfl ?_   -- 24.25
                              refine V_go (4, true) rfl ?_
                              refine V_gtr (.s _ _ _) rfl rfl rfl ?_   -- 24.26
                              refine V_pickT (.s _ _ _) rfl rfl rfl ?_   -- 24.27
                              refine V_sub [(0, _), (1, _), (2, _), (4, _), (5, _), (6, _), (7, _), (8, _), (9, _), (10, _), (11, _), (12, _), (13, _), (44, _), (45, _), (70, _), (71, _), (72, _), (101, _)] ⟨rfl, rfl, rfl, rfl, rfl, rfl, rfl, rfl, rfl, rfl, rfl, rfl, rfl, rfl, rfl, rfl, rfl, rfl, rfl, trivial⟩ ?_
                              refine V_nil (.inr ⟨_, rfl⟩) ?_
                              refine E_then ?_
                              refine J_cond rfl (fun h15 => ?_) (fun h15 => ?_)   -- C9
                              · skip
                                refine J_region ?_
                                refine V_asg (.n _) rfl rfl ?_   -- 25.0
                                refine V_sub [(0, _), (1, _), (2, _), (4, _), (5, _), (6, _), (7, _), (8, _), (9, _), (10, _), (11, _), (12, _), (13, _), (44, _), (45, _), (70, _), (71, _), (72, _), (101, _)] ⟨rfl, rfl, rfl, rfl, rfl, rfl, rfl, rfl, rfl, rfl, rfl, rfl, rfl, rfl, rfl, rfl, rfl, rfl, rfl, trivial⟩ ?_
                                refine V_nil (.inl rfl) ?_
                                refine E_blk ?_
                                refine E_then ?_
                                refine J_region ?_
                                refine V_add (.n _) rfl rfl (wrap_ok (by omega)) rfl ?_   -- 26.0
                                refine V_mov (.n _) rfl rfl ?_   -- 26.1
                                refine V_sub [(0, _), (1, _), (2, _), (4, _), (5, _), (6, _), (7, _), (8, _), (9, _), (10, _), (11, _), (12, _), (13, _), (44, _), (45, _), (70, _), (71, _), (72, _), (101, _)] ⟨rfl, rfl, rfl, rfl, rfl, rfl, rfl, rfl, rfl, rfl, rfl, rfl, rfl, rfl, rfl, rfl, rfl, rfl, rfl, trivial⟩ ?_
                                refine V_nil (.inl rfl) ?_
                                -- again L2 0
                                refine E_again (X := Nat × Bool) (KI := fun x => [(0, (.agg #[.slice A1 st.length c1, .slice A2 ch.length c2, .slice A3 be.length c3])), (1, (.slice AT ts.length cT)), (2, (.pointer (some ⟨b2, 0, none⟩))), (4, (.int .i64 (0))), (5, (.bool false)), (6, (.int .i64 (0))), (7, (.int .i64 (st.length : Nat))), (8, .bool x.2), (9, (.slice (some ⟨bN, 0, none⟩) st.length st.length)), (10, .int .i64 (s : Nat)), (11, .int .i64 (i : Nat)), (12, (.int .i64 (ts.getD (st.length * s + i) 0))), (44, (.int .i64 (st.length : Nat))), (45, .int .i64 (i : Nat)), (70, (.int .i64 (st.length : Nat))), (71, .int .i64 (x.1 : Nat))]) (GI := fun x => [.c bN 3 (I (needT st.length (natB be))), .c b2 51 [.slice A1 st.length c1, .slice A2 ch.length c2, .slice A3 be.length c3]]) (I := fun x => x.1 ≤ st.length ∧ (x.2 = true ↔ z2 = true ∧ ∀ j, j < x.1 → (fun j => fol (natB be) s j = true → ts.getD (st.length * s + i) 0 ≤ cst ch i j + ts.getD (st.length * (s ||| 2 ^ j) + j) 0) j)) (μ := fun x => st.length - x.1) (x := (j, z3)) ((j + 1, false)) ?_ ?_ ?_ (fun w h => h)
                                · show st.length - (j + 1) < st.length - j; omega
                                · dsimp only
                                  refine ⟨by omega, iff_next hz3 (iff_of_false (by simp) (fun hh => ?_))⟩
                                  have := hh.2 (by assumption)
                                  omega
                                · refine ⟨?_, ?_, ?_, ?_, ?_, ?_, ?_, ?_, ?_, ?_, ?_, ?_, ?_, ?_, ?_, ?_, trivial⟩ <;> first | rfl | exact int_eq (by omega) | exact int_eq (by dsimp only; omega)
                              · skip
                                refine J_skip ?_
                                refine E_blk ?_
                                refine E_then ?_
                                refine J_region ?_
                                refine V_add (.n _) rfl rfl (wrap_ok (by omega)) rfl ?_   -- 26.0
                                refine V_mov (.n _) rfl rfl ?_   -- 26.1
                                refine V_sub [(0, _), (1, _), (2, _), (4, _), (5, _), (6, _), (7, _), (8, _), (9, _), (10, _), (11, _), (12, _), (13, _), (44, _), (45, _), (70, _), (71, _), (72, _), (101, _)] ⟨rfl, rfl, rfl, rfl, rfl, rfl, rfl, rfl, rfl, rfl, rfl, rfl, rfl, rfl, rfl, rfl, rfl, rfl, rfl, trivial⟩ ?_
                                refine V_nil (.inl rfl) ?_
                                -- again L2 1
                                refine E_again (X := Nat × Bool) (KI := fun x => [(0, (.agg #[.slice A1 st.length c1, .slice A2 ch.length c2, .slice A3 be.length c3])), (1, (.slice AT ts.length cT)), (2, (.pointer (some ⟨b2, 0, none⟩))), (4, (.int .i64 (0))), (5, (.bool false)), (6, (.int .i64 (0))), (7, (.int .i64 (st.length : Nat))), (8, .bool x.2), (9, (.slice (some ⟨bN, 0, none⟩) st.length st.length)), (10, .int .i64 (s : Nat)), (11, .int .i64 (i : Nat)), (12, (.int .i64 (ts.getD (st.length * s + i) 0))), (44, (.int .i64 (st.length : Nat))), (45, .int .i64 (i : Nat)), (70, (.int .i64 (st.length : Nat))), (71, .int .i64 (x.1 : Nat))]) (GI := fun x => [.c bN 3 (I (needT st.length (natB be))), .c b2 51 [.slice A1 st.length c1, .slice A2 ch.length c2, .slice A3 be.length c3]]) (I := fun x => x.1 ≤ st.length ∧ (x.2 = true ↔ z2 = true ∧ ∀ j, j < x.1 → (fun j => fol (natB be) s j = true → ts.getD (st.length * s + i) 0 ≤ cst ch i j + ts.getD (st.length * (s ||| 2 ^ j) + j) 0) j)) (μ := fun x => st.length - x.1) (x := (j, z3)) ((j + 1, z3)) ?_ ?_ ?_ (fun w h => h)
                                · show st.length - (j + 1) < st.length - j; omega
                                · dsimp only
                                  refine ⟨by omega, iff_next hz3 ⟨fun h => ⟨h, fun hf => by first | omega | simp_all⟩, fun h => h.1⟩⟩
                                · refine ⟨?_, ?_, ?_, ?_, ?_, ?_, ?_, ?_, ?_, ?_, ?_, ?_, ?_, ?_, ?_, ?_, trivial⟩ <;> first | rfl | exact int_eq (by omega) | exact int_eq (by dsimp only; omega)
                            · skip
                              refine V_pass (.s _ _ _) (4, true) rfl rfl ?_   -- 24.5
                              refine V_pass (.s _ _ _) (4, true) rfl rfl ?_   -- 24.6
                              refine V_pass (.s _ _ _) (4, true) rfl rfl ?_   -- 24.7
                              refine V_pass (.s _ _ _) (4, true) rfl rfl ?_   -- 24.8
                              refine V_pass (.s _ _ _) (4, true) rfl rfl ?_   -- 24.9
                              refine V_pass (.s _ _ _) (4, true) rfl rfl ?_   -- 24.10
                              refine V_pass (.s _ _ _) (4, true) rfl rfl ?_   -- 24.11
                              refine V_pass (.s _ _ _) (4, true) rfl rfl ?_   -- 24.12
                              refine V_pass (.s _ _ _) (4, true) rfl rfl ?_   -- 24.13
                              refine V_pass (.s _ _ _) (4, true) rfl rfl ?_   -- 24.14
                              refine V_pass (.s _ _ _) (4, true) rfl rfl ?_   -- 24.15
                              refine V_pass (.s _ _ _) (4, true) rfl rfl ?_   -- 24.16
                              refine V_pass (.s _ _ _) (4, true) rfl rfl ?_   -- 24.17
                              refine V_pass (.s _ _ _) (4, true) rfl rfl ?_   -- 24.18
                              refine V_pass (.s _ _ _) (4, true) rfl rfl ?_   -- 24.19
                              refine V_pass (.s _ _ _) (4, true) rfl rfl ?_   -- 24.20
                              refine V_pass (.s _ _ _) (4, true) rfl rfl ?_   -- 24.21
                              refine V_pass (.s _ _ _) (4, true) rfl rfl ?_   -- 24.22
                              refine V_pass (.s _ _ _) (4, true) rfl rfl ?_   -- 24.23
                              refine V_pass (.s _ _ _) (4, true) rfl rfl ?_   -- 24.24
                              refine V_pass (.s _ _ _) (4, true) rfl rfl ?_   -- 24.25
                              refine V_pass (.s _ _ _) (4, true) rfl rfl ?_   -- 24.26
                              refine V_pickF (.s _ _ _) rfl rfl rfl ?_   -- 24.27
                              refine V_sub [(0, _), (1, _), (2, _), (4, _), (5, _), (6, _), (7, _), (8, _), (9, _), (10, _), (11, _), (12, _), (13, _), (44, _), (45, _), (70, _), (71, _), (72, _), (101, _)] ⟨rfl, rfl, rfl, rfl, rfl, rfl, rfl, rfl, rfl, rfl, rfl, rfl, rfl, rfl, rfl, rfl, rfl, rfl, rfl, trivial⟩ ?_
                              refine V_nil (.inr ⟨_, rfl⟩) ?_
                              refine E_then ?_
                              refine J_condF rfl ?_
                              refine J_skip ?_
                              refine E_blk ?_
                              refine E_then ?_
                              refine J_region ?_
                              refine V_add (.n _) rfl rfl (wrap_ok (by omega)) rfl ?_   -- 26.0
                              refine V_mov (.n _) rfl rfl ?_   -- 26.1
                              refine V_sub [(0, _), (1, _), (2, _), (4, _), (5, _), (6, _), (7, _), (8, _), (9, _), (10, _), (11, _), (12, _), (13, _), (44, _), (45, _), (70, _), (71, _), (72, _), (101, _)] ⟨rfl, rfl, rfl, rfl, rfl, rfl, rfl, rfl, rfl, rfl, rfl, rfl, rfl, rfl, rfl, rfl, rfl, rfl, rfl, trivial⟩ ?_
                              refine V_nil (.inl rfl) ?_
                              -- again L2 2
                              refine E_again (X := Nat × Bool) (KI := fun x => [(0, (.agg #[.slice A1 st.length c1, .slice A2 ch.length c2, .slice A3 be.length c3])), (1, (.slice AT ts.length cT)), (2, (.pointer (some ⟨b2, 0, none⟩))), (4, (.int .i64 (0))), (5, (.bool false)), (6, (.int .i64 (0))), (7, (.int .i64 (st.length : Nat))), (8, .bool x.2), (9, (.slice (some ⟨bN, 0, none⟩) st.length st.length)), (10, .int .i64 (s : Nat)), (11, .int .i64 (i : Nat)), (12, (.int .i64 (ts.getD (st.length * s + i) 0))), (44, (.int .i64 (st.length : Nat))), (45, .int .i64 (i : Nat)), (70, (.int .i64 (st.length : Nat))), (71, .int .i64 (x.1 : Nat))]) (GI := fun x => [.c bN 3 (I (needT st.length (natB be))), .c b2 51 [.slice A1 st.length c1, .slice A2 ch.length c2, .slice A3 be.length c3]]) (I := fun x => x.1 ≤ st.length ∧ (x.2 = true ↔ z2 = true ∧ ∀ j, j < x.1 → (fun j => fol (natB be) s j = true → ts.getD (st.length * s + i) 0 ≤ cst ch i j + ts.getD (st.length * (s ||| 2 ^ j) + j) 0) j)) (μ := fun x => st.length - x.1) (x := (j, z3)) ((j + 1, z3)) ?_ ?_ ?_ (fun w h => h)
                              · show st.length - (j + 1) < st.length - j; omega
                              · dsimp only
                                refine ⟨by omega, iff_next hz3 ⟨fun h => ⟨h, fun hf => by first | omega | simp_all⟩, fun h => h.1⟩⟩
                              · refine ⟨?_, ?_, ?_, ?_, ?_, ?_, ?_, ?_, ?_, ?_, ?_, ?_, ?_, ?_, ?_, ?_, trivial⟩ <;> first | rfl | exact int_eq (by omega) | exact int_eq (by dsimp only; omega)
                          · skip
                            refine J_exit ?_
                            refine E_then_exit ?_
                            refine E_lp_exit ?_
                            refine E_blk_hit ?_
                            refine E_blk ?_
                            refine E_then ?_
                            refine J_region ?_
                            refine V_add (.n _) rfl rfl (wrap_ok (by omega)) rfl ?_   -- 27.0
                            refine V_mov (.n _) rfl rfl ?_   -- 27.1
                            refine V_sub [(0, _), (1, _), (2, _), (4, _), (5, _), (6, _), (7, _), (8, _), (9, _), (10, _), (11, _), (12, _), (44, _), (45, _), (70, _), (71, _), (72, _)] ⟨rfl, rfl, rfl, rfl, rfl, rfl, rfl, rfl, rfl, rfl, rfl, rfl, rfl, rfl, rfl, rfl, rfl, trivial⟩ ?_
                            refine V_nil (.inl rfl) ?_
                            -- again L1 2
                            obtain rfl : j = st.length := by omega
                            refine E_again (X := Nat × Bool) (KI := fun x => [(0, (.agg #[.slice A1 st.length c1, .slice A2 ch.length c2, .slice A3 be.length c3])), (1, (.slice AT ts.length cT)), (2, (.pointer (some ⟨b2, 0, none⟩))), (4, (.int .i64 (0))), (5, (.bool false)), (6, (.int .i64 (0))), (7, (.int .i64 (st.length : Nat))), (8, .bool x.2), (9, (.slice (some ⟨bN, 0, none⟩) st.length st.length)), (10, .int .i64 (s : Nat)), (44, (.int .i64 (st.length : Nat))), (45, .int .i64 (x.1 : Nat))]) (GI := fun x => [.c bN 3 (I (needT st.length (natB be))), .c b2 51 [.slice A1 st.length c1, .slice A2 ch.length c2, .slice A3 be.length c3]]) (I := fun x => x.1 ≤ st.length ∧ (x.2 = true ↔ z0 = true ∧ ∀ i, i < x.1 → Cell st.length ch (natB be) ts s i)) (μ := fun x => st.length - x.1) (x := (i, z1)) ((i + 1, z3)) ?_ ?_ ?_ (fun w h => h)
                            · show st.length - (i + 1) < st.length - i; omega
                            · dsimp only
                              refine ⟨by omega, iff_next hz1 ?_⟩
                              rw [hz3, hz2, cell_yes hbit, and_assoc]
                            · refine ⟨?_, ?_, ?_, ?_, ?_, ?_, ?_, ?_, ?_, ?_, ?_, ?_, trivial⟩ <;> first | rfl | exact int_eq (by omega) | exact int_eq (by dsimp only; omega)
                · skip
                  refine J_exit ?_
                  refine E_then_exit ?_
                  refine E_lp_exit ?_
                  refine E_blk_hit ?_
                  refine E_blk ?_
                  refine E_then ?_
                  refine J_region ?_
                  refine V_mov (.n _) rfl rfl ?_   -- 13.0
                  refine V_add (.n _) rfl rfl (wrap_ok (by omega)) rfl ?_   -- 13.1
                  refine V_asg (.n _) rfl rfl ?_   -- 13.2
                  refine V_sub [(0, _), (1, _), (2, _), (4, _), (5, _), (6, _), (7, _), (8, _), (9, _), (10, _), (44, _), (45, _), (46, _)] ⟨rfl, rfl, rfl, rfl, rfl, rfl, rfl, rfl, rfl, rfl, rfl, rfl, rfl, trivial⟩ ?_
                  refine V_nil (.inl rfl) ?_
                  -- again L0 0
                  obtain rfl : i = st.length := by omega
                  refine E_again (X := Nat × Bool) (KI := fun x => [(0, (.agg #[.slice A1 st.length c1, .slice A2 ch.length c2, .slice A3 be.length c3])), (1, (.slice AT ts.length cT)), (2, (.pointer (some ⟨b2, 0, none⟩))), (4, (.int .i64 (0))), (5, (.bool false)), (6, (.int .i64 (0))), (7, (.int .i64 (st.length : Nat))), (8, .bool x.2), (9, (.slice (some ⟨bN, 0, none⟩) st.length st.length)), (10, .int .i64 (x.1 : Nat))]) (GI := fun x => [.c bN 3 (I (needT st.length (natB be))), .c b2 51 [.slice A1 st.length c1, .slice A2 ch.length c2, .slice A3 be.length c3]]) (I := fun x => 1 ≤ x.1 ∧ x.1 ≤ 2 ^ st.length ∧ (x.2 = true ↔ True ∧ ∀ s, s < x.1 → ∀ i, i < st.length → Cell st.length ch (natB be) ts s i)) (μ := fun x => 2 ^ st.length - x.1) (x := (s, z0)) ((s + 1, z1)) ?_ ?_ ?_ (fun w h => h)
                  · show 2 ^ st.length - (s + 1) < 2 ^ st.length - s; omega
                  · dsimp only
                    exact ⟨by omega, by omega, iff_next hz hz1⟩
                  · refine ⟨?_, ?_, ?_, ?_, ?_, ?_, ?_, ?_, ?_, ?_, trivial⟩ <;> first | rfl | exact int_eq (by omega) | exact int_eq (by dsimp only; omega)
            · skip
              refine J_exit ?_
              refine E_then_exit ?_
              refine E_lp_exit ?_
              refine E_blk_hit ?_
              refine E_then ?_
              refine J_seq ?_
              refine J_region ?_
              refine V_ldN (.n _) Tryd.isAgg51 Tryd.sizeOf51 rfl (by repeat (first | exact List.Mem.head _ | assumption | apply List.Mem.tail)) (by rfl) rfl rfl ?_   -- 28.0
              refine V_mov (.n _) rfl rfl ?_   -- 28.1
              refine V_call0 (.n _) Tryd.call77 (.cons rfl (.cons rfl .nil)) (fun w1 hw1 => least_spec w1 A1 A2 A3 c1 c2 c3 vs st ch be hl1 hl2 hl3 (hp.keep hw1) hv AT cT ts (ht.keep hw1) (by omega) (out_bd hao)) rfl trivial ?_   -- 28.2
              refine V_mov (.n _) rfl rfl ?_   -- 28.3
              refine V_asg (.n _) rfl rfl ?_   -- 28.4
              refine V_asg (.n _) rfl rfl ?_   -- 28.5
              refine V_asg (.n _) rfl rfl ?_   -- 28.6
              refine V_sub [(0, _), (1, _), (2, _), (4, _), (5, _), (6, _), (7, _), (8, _), (9, _), (10, _), (41, _)] ⟨rfl, rfl, rfl, rfl, rfl, rfl, rfl, rfl, rfl, rfl, rfl, trivial⟩ ?_
              refine V_nil (.inl rfl) ?_
              refine E_then ?_
              refine J_ret ?_
              -- return R4
              refine E_ret3 Tryd.results38 rfl rfl rfl (fun w hw => ?_)
              obtain rfl : s = 2 ^ st.length := by omega
              have hbs : soundB st.length ch (natB be) ts = z0 := by rw [Bool.eq_iff_iff, soundB_iff, hz]; simp
              exact ⟨by rw [checkR_5 hv htl hao hpo, hbs], hw.sub (fun x hx => by simp at hx) (by simp [keys])⟩

theorem RCheck_spec (w : World) (A1 A2 A3 : Option Addr) (c1 c2 c3 : Nat) (vs : List Value) (st : List Int) (ch : Rows2) (be : List (Int × Int)) (hl1 : st.length ≤ 140737488351232) (hl2 : ch.length ≤ 140737488351232) (hl3 : be.length ≤ 140737488351232) (hp : PR w A1 A2 A3 vs st ch be) (hlr : ∀ r ∈ ch, r.length ≤ 140737488351232) (AT : Option Addr) (cT : Nat) (ts : List Int) (hlt : ts.length ≤ 140737488351232) (ht : Rd w AT (I ts)) : Calls Tryd.prog 39 #[.agg #[.slice A1 st.length c1, .slice A2 ch.length c2, .slice A3 be.length c3], .slice AT ts.length cT] w fun e w' => e = .returned (.tuple #[.int .i64 (checkR st ch be ts).1, .bool (checkR st ch be ts).2.1, .int .i64 (checkR st ch be ts).2.2]) ∧ St w [] w' := by
  refine calls (args := [.agg #[.slice A1 st.length c1, .slice A2 ch.length c2, .slice A3 be.length c3], .slice AT ts.length cT]) Tryd.func39 rfl Tryd.ntmps39 (Nat.le_of_ble_eq_true rfl) (St.refl w) ?_
  refine J_seq ?_
  refine J_region ?_
  refine V_box (.n _) rfl rfl rfl (fun _ => trivial) (fun b2 => ?_)   -- 0.0
  refine V_asg (.n _) rfl rfl ?_   -- 0.1
  refine V_asg (.n _) rfl rfl ?_   -- 0.2
  refine V_asg (.n _) rfl rfl ?_   -- 0.3
  refine V_sub [(0, _), (1, _), (2, _), (4, _), (5, _), (6, _)] ⟨rfl, rfl, rfl, rfl, rfl, rfl, trivial⟩ ?_
  refine V_nil (.inl rfl) ?_
  refine E_then ?_
  refine J_seq ?_
  refine J_region ?_
  first | refine V_fa0 (.n _) fo48_0 rfl rfl ?_ | refine V_faz (.n _) fo48_0 rfl rfl ?_ | refine V_fa (.n _) fo48_0 rfl rfl ?_   -- 1.0
  refine V_ld (.n _) Tryd.isAgg34 rfl (by repeat (first | exact List.Mem.head _ | assumption | apply List.Mem.tail)) (by rfl) rfl ?_   -- 1.1
  refine V_len (.n _) Tryd.underlying34 rfl rfl ?_   -- 1.2
  refine V_asg (.n _) rfl rfl ?_   -- 1.3
  refine V_sub [(0, _), (1, _), (2, _), (4, _), (5, _), (6, _), (7, _)] ⟨rfl, rfl, rfl, rfl, rfl, rfl, rfl, trivial⟩ ?_
  refine V_nil (.inl rfl) ?_
  refine E_then ?_
  refine J_seq ?_
  refine J_block ?_
  refine J_seq ?_
  refine J_region ?_
  refine V_ldN (.n _) Tryd.isAgg48 Tryd.sizeOf48 rfl (by repeat (first | exact List.Mem.head _ | assumption | apply List.Mem.tail)) (by rfl) rfl rfl ?_   -- 2.0
  refine V_call0 (.n _) Tryd.call34 (.cons rfl .nil) (fun w1 hw1 => rvalid_spec w1 A1 A2 A3 c1 c2 c3 vs st ch be hl1 hl2 hl3 (hp.keep hw1) hlr) rfl trivial ?_   -- 2.1
  refine V_notB (.n _) rfl rfl ?_   -- 2.2
  refine V_asg (.n _) rfl rfl ?_   -- 2.3
  refine V_sub [(0, _), (1, _), (2, _), (4, _), (5, _), (6, _), (7, _), (16, _)] ⟨rfl, rfl, rfl, rfl, rfl, rfl, rfl, rfl, trivial⟩ ?_
  refine V_nil (.inl rfl) ?_
  refine E_then ?_
  refine J_condB rfl (fun h1 => ?_) (fun h1 => ?_)   -- C0
  · skip
    refine J_seq ?_
    refine J_region ?_
    refine V_asg (.n _) rfl rfl ?_   -- 3.0
    refine V_asg (.n _) rfl rfl ?_   -- 3.1
    refine V_asg (.n _) rfl rfl ?_   -- 3.2
    refine V_sub [(0, _), (1, _), (2, _), (4, _), (5, _), (6, _), (7, _), (16, _)] ⟨rfl, rfl, rfl, rfl, rfl, rfl, rfl, rfl, trivial⟩ ?_
    refine V_nil (.inl rfl) ?_
    refine E_then ?_
    refine J_ret ?_
    refine E_blk_ret ?_
    refine E_then_ret ?_
    -- return R0
    refine E_ret3 Tryd.results39 rfl rfl rfl (fun w hw => ?_)
    exact ⟨by rw [checkR_1 (by assumption)], hw.sub (fun x hx => by simp at hx) (by simp [keys])⟩
  · have hv := validP_iff.1 (show validP st ch be = true by simpa using h1)
    have hn10 := hv.n10
    have hn01 := hv.n1
    have hp1 := pow1024 hn10
    have hN := n2n hn10
    have hp0 := Nat.pow_pos (n := st.length) (show 0 < 2 by decide)
    have hchl := hv.chl
    have hfar : far2 = 1099511627776 := rfl
    refine J_seq ?_
    refine J_region ?_
    refine V_mov (.n _) rfl rfl ?_   -- 4.0
    refine V_len (.n _) Tryd.underlying34 rfl rfl ?_   -- 4.1
    refine V_mov (.n _) rfl rfl ?_   -- 4.2
    refine V_mov (.n _) rfl rfl ?_   -- 4.3
    refine V_shl (.n _) rfl rfl (by omega) (by simp [IntKind.bits]; omega) (by rw [shl_natk]; exact wrap_nat (by omega)) rfl ?_   -- 4.4
    rw [shl_natk]
    refine V_neq (.n _) rfl rfl rfl ?_   -- 4.5
    refine V_asg (.n _) rfl rfl ?_   -- 4.6
    refine V_sub [(0, _), (1, _), (2, _), (4, _), (5, _), (6, _), (7, _), (16, _), (20, _)] ⟨rfl, rfl, rfl, rfl, rfl, rfl, rfl, rfl, rfl, trivial⟩ ?_
    refine V_nil (.inl rfl) ?_
    refine E_then ?_
    refine J_cond rfl (fun h2 => ?_) (fun h2 => ?_)   -- C1
    · skip
      refine J_seq ?_
      refine J_region ?_
      refine V_asg (.n _) rfl rfl ?_   -- 5.0
      refine V_asg (.n _) rfl rfl ?_   -- 5.1
      refine V_asg (.n _) rfl rfl ?_   -- 5.2
      refine V_sub [(0, _), (1, _), (2, _), (4, _), (5, _), (6, _), (7, _), (16, _), (20, _)] ⟨rfl, rfl, rfl, rfl, rfl, rfl, rfl, rfl, rfl, trivial⟩ ?_
      refine V_nil (.inl rfl) ?_
      refine E_then ?_
      refine J_ret ?_
      refine E_blk_ret ?_
      refine E_then_ret ?_
      -- return R1
      refine E_ret3 Tryd.results39 rfl rfl rfl (fun w hw => ?_)
      exact ⟨by rw [checkR_2 hv (by omega)], hw.sub (fun x hx => by simp at hx) (by simp [keys])⟩
    · have htl : ¬ ts.length ≠ st.length * 2 ^ st.length := by omega
      refine J_seq ?_
      refine J_region ?_
      refine V_mov (.n _) rfl rfl ?_   -- 6.0
      refine V_call0 (.n _) Tryd.call66 (.cons rfl .nil) (fun w1 hw1 => near_spec w1 AT cT ts hlt (ht.keep hw1)) rfl trivial ?_   -- 6.1
      refine V_notB (.n _) rfl rfl ?_   -- 6.2
      refine V_asg (.n _) rfl rfl ?_   -- 6.3
      refine V_sub [(0, _), (1, _), (2, _), (4, _), (5, _), (6, _), (7, _), (16, _), (20, _), (27, _)] ⟨rfl, rfl, rfl, rfl, rfl, rfl, rfl, rfl, rfl, rfl, trivial⟩ ?_
      refine V_nil (.inl rfl) ?_
      refine E_then ?_
      refine J_condB rfl (fun h3 => ?_) (fun h3 => ?_)   -- C2
      · skip
        refine J_seq ?_
        refine J_region ?_
        refine V_asg (.n _) rfl rfl ?_   -- 7.0
        refine V_asg (.n _) rfl rfl ?_   -- 7.1
        refine V_asg (.n _) rfl rfl ?_   -- 7.2
        refine V_sub [(0, _), (1, _), (2, _), (4, _), (5, _), (6, _), (7, _), (16, _), (20, _), (27, _)] ⟨rfl, rfl, rfl, rfl, rfl, rfl, rfl, rfl, rfl, rfl, trivial⟩ ?_
        refine V_nil (.inl rfl) ?_
        refine E_then ?_
        refine J_ret ?_
        refine E_blk_ret ?_
        refine E_then_ret ?_
        -- return R2
        refine E_ret3 Tryd.results39 rfl rfl rfl (fun w hw => ?_)
        exact ⟨by rw [checkR_3 hv htl (by simp_all)], hw.sub (fun x hx => by simp at hx) (by simp [keys])⟩
      · have hao : ts.any out = false := by simpa using h3
        refine J_seq ?_
        refine J_region ?_
        refine V_ldN (.n _) Tryd.isAgg48 Tryd.sizeOf48 rfl (by repeat (first | exact List.Mem.head _ | assumption | apply List.Mem.tail)) (by rfl) rfl rfl ?_   -- 8.0
        refine V_call0 (.n _) Tryd.call81 (.cons rfl .nil) (fun w1 hw1 => rpossible_spec w1 A1 A2 A3 c1 c2 c3 vs st ch be hl1 hl2 hl3 (hp.keep hw1) hv) rfl trivial ?_   -- 8.1
        refine V_notB (.n _) rfl rfl ?_   -- 8.2
        refine V_asg (.n _) rfl rfl ?_   -- 8.3
        refine V_sub [(0, _), (1, _), (2, _), (4, _), (5, _), (6, _), (7, _), (16, _), (20, _), (27, _), (31, _)] ⟨rfl, rfl, rfl, rfl, rfl, rfl, rfl, rfl, rfl, rfl, rfl, trivial⟩ ?_
        refine V_nil (.inl rfl) ?_
        refine E_then ?_
        refine J_condB rfl (fun h4 => ?_) (fun h4 => ?_)   -- C3
        · have hpn : possible (natB be) st.length = false := by simpa using h4
          refine J_seq ?_
          refine J_region ?_
          refine V_asg (.n _) rfl rfl ?_   -- 9.0
          refine V_asg (.n _) rfl rfl ?_   -- 9.1
          refine V_asg (.n _) rfl rfl ?_   -- 9.2
          refine V_sub [(0, _), (1, _), (2, _), (4, _), (5, _), (6, _), (7, _), (16, _), (20, _), (27, _), (31, _)] ⟨rfl, rfl, rfl, rfl, rfl, rfl, rfl, rfl, rfl, rfl, rfl, trivial⟩ ?_
          refine V_nil (.inl rfl) ?_
          refine E_then ?_
          refine J_ret ?_
          refine E_blk_ret ?_
          refine E_then_ret ?_
          -- return R3
          refine E_ret3 Tryd.results39 rfl rfl rfl (fun w hw => ?_)
          exact ⟨by rw [checkR_4 hv htl hao hpn], hw.sub (fun x hx => by simp at hx) (by simp [keys])⟩
        · have hpo : possible (natB be) st.length = true := by simpa using h4
          refine J_skip ?_
          refine E_blk ?_
          refine E_then ?_
          refine J_seq ?_
          refine J_region ?_
          refine V_asg (.n _) rfl rfl ?_   -- 10.0
          refine V_asg (.n _) rfl rfl ?_   -- 10.1
          refine V_sub [(0, _), (1, _), (2, _), (4, _), (5, _), (6, _), (7, _), (8, _), (9, _), (16, _), (20, _), (27, _), (31, _)] ⟨rfl, rfl, rfl, rfl, rfl, rfl, rfl, rfl, rfl, rfl, rfl, rfl, rfl, trivial⟩ ?_
          refine V_nil (.inl rfl) ?_
          refine E_then ?_
          refine J_seq ?_
          refine J_seq ?_
          refine J_region ?_
          refine V_mov (.n _) rfl rfl ?_   -- 11.0
          refine V_mov (.n _) rfl rfl ?_   -- 11.1
          refine V_sub [(0, _), (1, _), (2, _), (4, _), (5, _), (6, _), (7, _), (8, _), (9, _), (16, _), (20, _), (27, _), (31, _), (35, _), (36, _)] ⟨rfl, rfl, rfl, rfl, rfl, rfl, rfl, rfl, rfl, rfl, rfl, rfl, rfl, rfl, rfl, trivial⟩ ?_
          refine V_nil (.inl rfl) ?_
          refine E_then ?_
          refine J_block ?_
          -- loop L0
          refine J_loop (X := Nat × Bool) (fun x => [(0, (.agg #[.slice A1 st.length c1, .slice A2 ch.length c2, .slice A3 be.length c3])), (1, (.slice AT ts.length cT)), (2, (.pointer (some ⟨b2, 0, none⟩))), (4, (.int .i64 (0))), (5, (.bool false)), (6, (.int .i64 (0))), (7, (.int .i64 (st.length : Nat))), (8, .int .i64 (bestJ (natB be) (fun i => st.getD i 0 + ts.getD (st.length * 2 ^ i + i) 0) 0 (2 * far2) (List.range x.1))), (9, .bool x.2), (35, (.int .i64 (st.length : Nat))), (36, .int .i64 (x.1 : Nat))]) (fun x => [.c b2 48 [.slice A1 st.length c1, .slice A2 ch.length c2, .slice A3 be.length c3]]) (fun x => x.1 ≤ st.length ∧ (x.2 = true ↔ True ∧ ∀ i, i < x.1 → ∀ s, s < 2 ^ st.length → Cell st.length ch (natB be) ts s i)) (fun x => st.length - x.1) (0, true) (by refine ⟨?_, ?_, ?_, ?_, ?_, ?_, ?_, ?_, ?_, ?_, ?_, trivial⟩ <;> first | rfl | exact int_eq (by omega) | exact int_eq rfl) (fun w h => h) ?_ ?_
          · exact ⟨Nat.zero_le _, iff_of_true rfl ⟨trivial, fun i hi => by omega⟩⟩
          · rintro ⟨i, z0⟩ ⟨hi, hz⟩
            dsimp only at hi hz ⊢
            have hlb := (bestJ_le (be := natB be) (f := (fun i => st.getD i 0 + ts.getD (st.length * 2 ^ i + i) 0)) (s := 0) (List.range i) (2 * far2)).1
            refine J_seq ?_
            refine J_region ?_
            refine V_lss (.n _) rfl rfl rfl ?_   -- 12.0
            refine V_sub [(0, _), (1, _), (2, _), (4, _), (5, _), (6, _), (7, _), (8, _), (9, _), (35, _), (36, _), (37, _)] ⟨rfl, rfl, rfl, rfl, rfl, rfl, rfl, rfl, rfl, rfl, rfl, rfl, trivial⟩ ?_
            refine V_nil (.inl rfl) ?_
            refine E_then ?_
            refine J_seq ?_
            refine J_cond rfl (fun h5 => ?_) (fun h5 => ?_)   -- C4
            · skip
              refine J_skip ?_
              refine E_then ?_
              refine J_seq ?_
              refine J_block ?_
              refine J_seq ?_
              refine J_region ?_
              refine V_mov (.n _) rfl rfl ?_   -- 13.0
              refine V_asg (.n _) rfl rfl ?_   -- 13.1
              refine V_sub [(0, _), (1, _), (2, _), (4, _), (5, _), (6, _), (7, _), (8, _), (9, _), (10, _), (35, _), (36, _), (37, _)] ⟨rfl, rfl, rfl, rfl, rfl, rfl, rfl, rfl, rfl, rfl, rfl, rfl, rfl, trivial⟩ ?_
              refine V_nil (.inl rfl) ?_
              refine E_then ?_
              refine J_seq ?_
              refine J_seq ?_
              refine J_region ?_
              refine V_ldN (.n _) Tryd.isAgg48 Tryd.sizeOf48 rfl (by repeat (first | exact List.Mem.head _ | assumption | apply List.Mem.tail)) (by rfl) rfl rfl ?_   -- 14.0
              refine V_mov (.n _) rfl rfl ?_   -- 14.1
              refine V_call0 (.n _) Tryd.call83 (.cons rfl (.cons rfl (.cons rfl .nil))) (fun w1 hw1 => rfollows_spec w1 A1 A2 A3 c1 c2 c3 vs st ch be hl1 hl2 hl3 (hp.keep hw1) 0 i hv (by omega) (by omega)) rfl trivial ?_   -- 14.2
              refine V_sub [(0, _), (1, _), (2, _), (4, _), (5, _), (6, _), (7, _), (8, _), (9, _), (10, _), (35, _), (36, _), (37, _), (41, _)] ⟨rfl, rfl, rfl, rfl, rfl, rfl, rfl, rfl, rfl, rfl, rfl, rfl, rfl, rfl, trivial⟩ ?_
              refine V_nil (.inl rfl) ?_
              refine E_then ?_
              -- join C5
              refine J_cut (X := Unit) (fun _ => [(0, (.agg #[.slice A1 st.length c1, .slice A2 ch.length c2, .slice A3 be.length c3])), (1, (.slice AT ts.length cT)), (2, (.pointer (some ⟨b2, 0, none⟩))), (4, (.int .i64 (0))), (5, (.bool false)), (6, (.int .i64 (0))), (7, (.int .i64 (st.length : Nat))), (8, .int .i64 (bestJ (natB be) (fun i => st.getD i 0 + ts.getD (st.length * 2 ^ i + i) 0) 0 (2 * far2) (List.range (i + 1)))), (9, .bool z0), (10, .int .i64 (i : Nat)), (35, (.int .i64 (st.length : Nat))), (36, .int .i64 (i : Nat))]) (fun _ => [.c b2 48 [.slice A1 st.length c1, .slice A2 ch.length c2, .slice A3 be.length c3]]) (fun _ => True) ?_ ?_
              · skip
                refine J_condB rfl (fun h6 => ?_) (fun h6 => ?_)   -- C5
                · skip
                  refine J_draw (Gs := _) (cl := [.p, .p, .r, .p, .p, .r, .p, .p, .p, .p, .p, .p, .p, .r, .p, .p, .p]) (by kernel_rfl) (fun _ _ h => h) ?_
                  refine V_mov (.s _ _ _) rfl rfl ?_   -- 15.0
                  first | refine V_fa0 (.s _ _ _) fo48_0 rfl rfl ?_ | refine V_faz (.s _ _ _) fo48_0 rfl rfl ?_ | refine V_fa (.s _ _ _) fo48_0 rfl rfl ?_   -- 15.1
                  refine V_ld (.s _ _ _) Tryd.isAgg34 rfl (by repeat (first | exact List.Mem.head _ | assumption | apply List.Mem.tail)) (by rfl) rfl ?_   -- 15.2
                  refine V_mov (.s _ _ _) rfl rfl ?_   -- 15.3
                  first | refine V_ix (.s _ _ _) Tryd.underlying34 Tryd.sizeOf3 rfl rfl (by omega) (by omega) rfl ?_ | refine V_ixz (.s _ _ _) Tryd.underlying34 Tryd.sizeOf3 rfl rfl (hp.h2.rd.pl (by rw [hp.h2.len]; omega)) (by omega) (by omega) rfl ?_ | refine V_ixz (.s _ _ _) Tryd.underlying34 Tryd.sizeOf3 rfl rfl (hrr.pl (by simp)) (by omega) (by omega) rfl ?_ | refine V_ixz (.s _ _ _) Tryd.underlying34 Tryd.sizeOf3 rfl rfl (hp.h1.pl (by simp)) (by omega) (by omega) rfl ?_ | refine V_ixz (.s _ _ _) Tryd.underlying34 Tryd.sizeOf3 rfl rfl (ht.pl (by simp)) (by omega) (by omega) rfl ?_   -- 15.4
                  refine V_ldz (.s _ _ _) Tryd.isAgg3 rfl hp.h1 (I_getN (i := i) (by omega)) rfl ?_   -- 15.5
                  have hsb := hv.ok.start i (by omega)
                  refine V_mov (.s _ _ _) rfl rfl ?_   -- 15.6
                  refine V_mov (.s _ _ _) rfl rfl ?_   -- 15.7
                  refine V_mov (.s _ _ _) rfl rfl ?_   -- 15.8
                  have h2i := Nat.pow_lt_pow_right (a := 2) (by decide) (show i < st.length by omega)
                  have hix := ix_lt (n := st.length) (s := 2 ^ i) (i := i) (m := 2 ^ st.length) (by omega) h2i
                  have hbt := out_bd hao (st.length * 2 ^ i + i)
                  refine V_shl (.s _ _ _) rfl rfl (by omega) (by simp [IntKind.bits]; omega) (by rw [shl_natk]; exact wrap_nat (by omega)) rfl ?_   -- 15.9
                  rw [shl_natk]
                  refine V_mov (.s _ _ _) rfl rfl ?_   -- 15.10
                  refine V_add (.s _ _ _) rfl rfl (wrap_ok (by omega)) rfl ?_   -- 15.11
                  rw [show ((st.length * 2 ^ i : Nat) : Int) + (i : Int) = ((st.length * 2 ^ i + i : Nat) : Int) by omega]
                  first | refine V_ix (.s _ _ _) Tryd.underlying34 Tryd.sizeOf3 rfl rfl (by omega) (by omega) rfl ?_ | refine V_ixz (.s _ _ _) Tryd.underlying34 Tryd.sizeOf3 rfl rfl (hp.h2.rd.pl (by rw [hp.h2.len]; omega)) (by omega) (by omega) rfl ?_ | refine V_ixz (.s _ _ _) Tryd.underlying34 Tryd.sizeOf3 rfl rfl (hrr.pl (by simp)) (by omega) (by omega) rfl ?_ | refine V_ixz (.s _ _ _) Tryd.underlying34 Tryd.sizeOf3 rfl rfl (hp.h1.pl (by simp)) (by omega) (by omega) rfl ?_ | refine V_ixz (.s _ _ _) Tryd.underlying34 Tryd.sizeOf3 rfl rfl (ht.pl (by simp)) (by omega) (by omega) rfl ?_   -- 15.12
                  refine V_ldz (.s _ _ _) Tryd.isAgg3 rfl ht (I_getN (i := st.length * 2 ^ i + i) (by omega)) rfl ?_   -- 15.13
                  refine V_add (.s _ _ _) rfl rfl (wrap_ok (by omega)) rfl ?_   -- 15.14
                  refine V_min (.s _ _ _) rfl rfl rfl ?_   -- 15.15
                  refine V_asg (.s _ _ _) rfl rfl ?_   -- 15.16
                  refine V_sub [(0, _), (1, _), (2, _), (4, _), (5, _), (6, _), (7, _), (8, _), (9, _), (10, _), (35, _), (36, _), (37, _), (41, _)] ⟨rfl, rfl, rfl, rfl, rfl, rfl, rfl, rfl, rfl, rfl, rfl, rfl, rfl, rfl, trivial⟩ ?_
                  refine V_nil (.inr ⟨_, rfl⟩) ?_
                  -- again C5 0
                  refine E_meet (()) ?_ ?_ (fun w h => h)
                  · trivial
                  · refine ⟨?_, ?_, ?_, ?_, ?_, ?_, ?_, ?_, ?_, ?_, ?_, ?_, trivial⟩ <;> first | rfl | exact int_eq (bestJ_yes (f := (fun i => st.getD i 0 + ts.getD (st.length * 2 ^ i + i) 0)) (m := 2 * far2) (by assumption)).symm | exact int_eq (by omega)
                · skip
                  refine J_skip ?_
                  -- again C5 1
                  refine E_meet (()) ?_ ?_ (fun w h => h)
                  · trivial
                  · refine ⟨?_, ?_, ?_, ?_, ?_, ?_, ?_, ?_, ?_, ?_, ?_, ?_, trivial⟩ <;> first | rfl | exact int_eq (bestJ_no (f := (fun i => st.getD i 0 + ts.getD (st.length * 2 ^ i + i) 0)) (m := 2 * far2) (by assumption)).symm | exact int_eq (by omega)
              · rintro _ -
                refine E_then ?_
                refine J_seq ?_
                refine J_region ?_
                refine V_mov (.n _) rfl rfl ?_   -- 16.0
                refine V_shl (.n _) rfl rfl (by omega) (by simp [IntKind.bits]; omega) (by rw [shl_nat]; exact wrap_nat (by omega)) rfl ?_   -- 16.1
                rw [shl_nat]
                refine V_mov (.n _) rfl rfl ?_   -- 16.2
                refine V_sub [(0, _), (1, _), (2, _), (4, _), (5, _), (6, _), (7, _), (8, _), (9, _), (10, _), (35, _), (36, _), (59, _), (60, _)] ⟨rfl, rfl, rfl, rfl, rfl, rfl, rfl, rfl, rfl, rfl, rfl, rfl, rfl, rfl, trivial⟩ ?_
                refine V_nil (.inl rfl) ?_
                refine E_then ?_
                refine J_block ?_
                -- loop L1
                refine J_loop (X := Nat × Bool) (fun x => [(0, (.agg #[.slice A1 st.length c1, .slice A2 ch.length c2, .slice A3 be.length c3])), (1, (.slice AT ts.length cT)), (2, (.pointer (some ⟨b2, 0, none⟩))), (4, (.int .i64 (0))), (5, (.bool false)), (6, (.int .i64 (0))), (7, (.int .i64 (st.length : Nat))), (8, .int .i64 (bestJ (natB be) (fun i => st.getD i 0 + ts.getD (st.length * 2 ^ i + i) 0) 0 (2 * far2) (List.range (i + 1)))), (9, .bool x.2), (10, .int .i64 (i : Nat)), (35, (.int .i64 (st.length : Nat))), (36, .int .i64 (i : Nat)), (59, (.int .i64 ((2 ^ st.length : Nat) : Int))), (60, .int .i64 (x.1 : Nat))]) (fun x => [.c b2 48 [.slice A1 st.length c1, .slice A2 ch.length c2, .slice A3 be.length c3]]) (fun x => x.1 ≤ 2 ^ st.length ∧ (x.2 = true ↔ z0 = true ∧ ∀ s, s < x.1 → Cell st.length ch (natB be) ts s i)) (fun x => 2 ^ st.length - x.1) (0, z0) (by refine ⟨?_, ?_, ?_, ?_, ?_, ?_, ?_, ?_, ?_, ?_, ?_, ?_, ?_, ?_, trivial⟩ <;> first | rfl | exact int_eq (by omega)) (fun w h => h) ?_ ?_
                · exact ⟨Nat.zero_le _, ⟨fun h => ⟨h, fun i hi => by omega⟩, fun h => h.1⟩⟩
                · rintro ⟨s, z1⟩ ⟨hs, hz1⟩
                  dsimp only at hs hz1 ⊢
                  refine J_seq ?_
                  refine J_region ?_
                  refine V_lss (.n _) rfl rfl rfl ?_   -- 17.0
                  refine V_sub [(0, _), (1, _), (2, _), (4, _), (5, _), (6, _), (7, _), (8, _), (9, _), (10, _), (35, _), (36, _), (59, _), (60, _), (61, _)] ⟨rfl, rfl, rfl, rfl, rfl, rfl, rfl, rfl, rfl, rfl, rfl, rfl, rfl, rfl, rfl, trivial⟩ ?_
                  refine V_nil (.inl rfl) ?_
                  refine E_then ?_
                  refine J_seq ?_
                  refine J_cond rfl (fun h7 => ?_) (fun h7 => ?_)   -- C6
                  · skip
                    refine J_skip ?_
                    refine E_then ?_
                    refine J_seq ?_
                    refine J_block ?_
                    refine J_seq ?_
                    refine J_region ?_
                    refine V_mov (.n _) rfl rfl ?_   -- 18.0
                    refine V_asg (.n _) rfl rfl ?_   -- 18.1
                    refine V_sub [(0, _), (1, _), (2, _), (4, _), (5, _), (6, _), (7, _), (8, _), (9, _), (10, _), (11, _), (35, _), (36, _), (59, _), (60, _), (61, _)] ⟨rfl, rfl, rfl, rfl, rfl, rfl, rfl, rfl, rfl, rfl, rfl, rfl, rfl, rfl, rfl, rfl, trivial⟩ ?_
                    refine V_nil (.inl rfl) ?_
                    refine E_then ?_
                    refine J_seq ?_
                    refine J_seq ?_
                    refine J_region ?_
                    refine V_mov (.n _) rfl rfl ?_   -- 19.0
                    refine V_mov (.n _) rfl rfl ?_   -- 19.1
                    refine V_shr (.n _) rfl rfl (by omega) (by simp [IntKind.bits]; omega) rfl ?_   -- 19.2
                    rw [shr_nat]
                    refine V_and (r := if s.testBit i then 1 else 0) (.n _) rfl rfl (bit_of s i (by omega)) rfl ?_   -- 19.3
                    refine V_eql (.n _) rfl rfl rfl ?_   -- 19.4
                    rw [bit0]
                    refine V_sub [(0, _), (1, _), (2, _), (4, _), (5, _), (6, _), (7, _), (8, _), (9, _), (10, _), (11, _), (35, _), (36, _), (59, _), (60, _), (61, _), (67, _)] ⟨rfl, rfl, rfl, rfl, rfl, rfl, rfl, rfl, rfl, rfl, rfl, rfl, rfl, rfl, rfl, rfl, rfl, trivial⟩ ?_
                    refine V_nil (.inl rfl) ?_
                    refine E_then ?_
                    refine J_condB rfl (fun h8 => ?_) (fun h8 => ?_)   -- C7
                    · have hbit : s.testBit i = false := by simpa using h8
                      refine J_exit ?_
                      refine E_then_exit ?_
                      refine E_blk_hit ?_
                      refine E_then ?_
                      refine J_region ?_
                      refine V_add (.n _) rfl rfl (wrap_ok (by omega)) rfl ?_   -- 27.0
                      refine V_mov (.n _) rfl rfl ?_   -- 27.1
                      refine V_sub [(0, _), (1, _), (2, _), (4, _), (5, _), (6, _), (7, _), (8, _), (9, _), (10, _), (11, _), (35, _), (36, _), (59, _), (60, _), (61, _), (67, _)] ⟨rfl, rfl, rfl, rfl, rfl, rfl, rfl, rfl, rfl, rfl, rfl, rfl, rfl, rfl, rfl, rfl, rfl, trivial⟩ ?_
                      refine V_nil (.inl rfl) ?_
                      -- again L1 0
                      refine E_again (X := Nat × Bool) (KI := fun x => [(0, (.agg #[.slice A1 st.length c1, .slice A2 ch.length c2, .slice A3 be.length c3])), (1, (.slice AT ts.length cT)), (2, (.pointer (some ⟨b2, 0, none⟩))), (4, (.int .i64 (0))), (5, (.bool false)), (6, (.int .i64 (0))), (7, (.int .i64 (st.length : Nat))), (8, .int .i64 (bestJ (natB be) (fun i => st.getD i 0 + ts.getD (st.length * 2 ^ i + i) 0) 0 (2 * far2) (List.range (i + 1)))), (9, .bool x.2), (10, .int .i64 (i : Nat)), (35, (.int .i64 (st.length : Nat))), (36, .int .i64 (i : Nat)), (59, (.int .i64 ((2 ^ st.length : Nat) : Int))), (60, .int .i64 (x.1 : Nat))]) (GI := fun x => [.c b2 48 [.slice A1 st.length c1, .slice A2 ch.length c2, .slice A3 be.length c3]]) (I := fun x => x.1 ≤ 2 ^ st.length ∧ (x.2 = true ↔ z0 = true ∧ ∀ s, s < x.1 → Cell st.length ch (natB be) ts s i)) (μ := fun x => 2 ^ st.length - x.1) (x := (s, z1)) ((s + 1, z1)) ?_ ?_ ?_ (fun w h => h)
                      · show 2 ^ st.length - (s + 1) < 2 ^ st.length - s; omega
                      · dsimp only
                        exact ⟨by omega, iff_next hz1 ⟨fun h => ⟨h, cell_no hbit⟩, fun h => h.1⟩⟩
                      · refine ⟨?_, ?_, ?_, ?_, ?_, ?_, ?_, ?_, ?_, ?_, ?_, ?_, ?_, ?_, trivial⟩ <;> first | rfl | exact int_eq (by omega) | exact int_eq (by dsimp only; omega)
                    · have hbit : s.testBit i = true := by simpa using h8
                      refine J_skip ?_
                      refine E_then ?_
                      refine J_seq ?_
                      -- join R20
                      refine J_cut (X := Bool) (fun z2 => [(0, (.agg #[.slice A1 st.length c1, .slice A2 ch.length c2, .slice A3 be.length c3])), (1, (.slice AT ts.length cT)), (2, (.pointer (some ⟨b2, 0, none⟩))), (4, (.int .i64 (0))), (5, (.bool false)), (6, (.int .i64 (0))), (7, (.int .i64 (st.length : Nat))), (8, .int .i64 (bestJ (natB be) (fun i => st.getD i 0 + ts.getD (st.length * 2 ^ i + i) 0) 0 (2 * far2) (List.range (i + 1)))), (9, .bool z2), (10, .int .i64 (i : Nat)), (11, .int .i64 (s : Nat)), (35, (.int .i64 (st.length : Nat))), (36, .int .i64 (i : Nat)), (59, (.int .i64 ((2 ^ st.length : Nat) : Int))), (60, .int .i64 (s : Nat))]) (fun z2 => [.c b2 48 [.slice A1 st.length c1, .slice A2 ch.length c2, .slice A3 be.length c3]]) (fun z2 => z2 = true ↔ z1 = true ∧ (s = 2 ^ st.length - 1 → ts.getD (st.length * s + i) 0 ≤ 0)) ?_ ?_
                      · skip
                        refine J_region ?_
                        refine V_mov (.n _) rfl rfl ?_   -- 20.0
                        refine V_mov (.n _) rfl rfl ?_   -- 20.1
                        refine V_splitB 69 rfl (fun h9 => ?_) (fun h9 => ?_)   -- guard 20.1
                        · skip
                          refine V_go (1, true) rfl ?_
                          refine V_mov (.n _) rfl rfl ?_   -- 20.2
                          refine V_go (1, true) rfl ?_
                          refine V_mov (.n _) rfl rfl ?_   -- 20.3
                          refine V_go (1, true) rfl ?_
                          refine V_shl (.n _) rfl rfl (by omega) (by simp [IntKind.bits]; omega) (by rw [shl_nat]; exact wrap_nat (by omega)) rfl ?_   -- 20.4
                          rw [shl_nat]
                          refine V_go (1, true) rfl ?_
                          refine V_sub1 (.n _) rfl rfl (wrap_ok (by omega)) rfl ?_   -- 20.5
                          refine V_go (1, true) rfl ?_
                          refine V_neq (.n _) rfl rfl rfl ?_   -- 20.6
                          refine V_go (1, true) rfl ?_
                          refine V_mov (.n _) rfl rfl ?_   -- 20.7
                          refine V_split 75 rfl (fun h10 => ?_) (fun h10 => ?_)   -- guard 20.7
                          · skip
                            refine V_pass (.n .p) (7, false) rfl rfl ?_   -- 20.8
                            refine V_pass (.n .p) (7, false) rfl rfl ?_   -- 20.9
                            refine V_pass (.n .p) (7, false) rfl rfl ?_   -- 20.10
                            refine V_pass (.n .p) (7, false) rfl rfl ?_   -- 20.11
                            refine V_pass (.n .p) (7, false) rfl rfl ?_   -- 20.12
                            refine V_pass (.n .p) (7, false) rfl rfl ?_   -- 20.13
                            refine V_pass (.n .p) (7, false) rfl rfl ?_   -- 20.14
                            refine V_pass (.n .p) (7, false) rfl rfl ?_   -- 20.15
                            refine V_pass (.n .p) (7, false) rfl rfl ?_   -- 20.16
                            refine V_go (1, true) rfl ?_
                            refine V_pickT (.n _) rfl rfl rfl ?_   -- 20.17
                            refine V_pickT (.n _) rfl rfl rfl ?_   -- 20.18
                            refine V_asg (.n _) rfl rfl ?_   -- 20.19
                            refine V_sub [(0, _), (1, _), (2, _), (4, _), (5, _), (6, _), (7, _), (8, _), (9, _), (10, _), (11, _), (35, _), (36, _), (59, _), (60, _), (61, _), (67, _)] ⟨rfl, rfl, rfl, rfl, rfl, rfl, rfl, rfl, rfl, rfl, rfl, rfl, rfl, rfl, rfl, rfl, rfl, trivial⟩ ?_
                            refine V_nil (.inl rfl) ?_
                            -- again R20 0
                            refine E_meet (true) ?_ ?_ (fun w h => h)
                            · exact iff_of_true rfl ⟨by assumption, fun e => by omega⟩
                            · refine ⟨?_, ?_, ?_, ?_, ?_, ?_, ?_, ?_, ?_, ?_, ?_, ?_, ?_, ?_, ?_, trivial⟩ <;> first | rfl | exact int_eq (by omega)
                          · skip
                            refine V_go (7, false) rfl ?_
                            refine V_mov (.n _) rfl rfl ?_   -- 20.8
                            refine V_go (7, false) rfl ?_
                            refine V_mov (.n _) rfl rfl ?_   -- 20.9
                            refine V_go (7, false) rfl ?_
                            refine V_mov (.n _) rfl rfl ?_   -- 20.10
                            refine V_go (7, false) rfl ?_
                            have hix0 := ix_lt (n := st.length) (s := s) (i := i) (m := 2 ^ st.length) (by omega) (by omega)
                            refine V_mul (.n _) rfl rfl (by rw [mulcast]; exact wrap_nat (by omega)) rfl ?_   -- 20.11
                            rw [mulcast]
                            refine V_go (7, false) rfl ?_
                            refine V_mov (.n _) rfl rfl ?_   -- 20.12
                            refine V_go (7, false) rfl ?_
                            refine V_add (.n _) rfl rfl (wrap_ok (by omega)) rfl ?_   -- 20.13
                            rw [show ((st.length * s : Nat) : Int) + (i : Int) = ((st.length * s + i : Nat) : Int) by omega]
                            refine V_go (7, false) rfl ?_
                            first | refine V_ix (.n _) Tryd.underlying34 Tryd.sizeOf3 rfl rfl (by omega) (by omega) rfl ?_ | refine V_ixz (.n _) Tryd.underlying34 Tryd.sizeOf3 rfl rfl (hp.h2.rd.pl (by rw [hp.h2.len]; omega)) (by omega) (by omega) rfl ?_ | refine V_ixz (.n _) Tryd.underlying34 Tryd.sizeOf3 rfl rfl (hrr.pl (by simp)) (by omega) (by omega) rfl ?_ | refine V_ixz (.n _) Tryd.underlying34 Tryd.sizeOf3 rfl rfl (hp.h1.pl (by simp)) (by omega) (by omega) rfl ?_ | refine V_ixz (.n _) Tryd.underlying34 Tryd.sizeOf3 rfl rfl (ht.pl (by simp)) (by omega) (by omega) rfl ?_   -- 20.14
                            refine V_go (7, false) rfl ?_
                            refine V_ldz (.n _) Tryd.isAgg3 rfl ht (I_getN (i := st.length * s + i) (by omega)) rfl ?_   -- 20.15
                            refine V_go (7, false) rfl ?_
                            refine V_leq (.n _) rfl rfl rfl ?_   -- 20.16
                            refine V_go (1, true) rfl ?_
                            refine V_pickF (.n _) rfl rfl rfl ?_   -- 20.17
                            refine V_pickT (.n _) rfl rfl rfl ?_   -- 20.18
                            refine V_asg (.n _) rfl rfl ?_   -- 20.19
                            refine V_sub [(0, _), (1, _), (2, _), (4, _), (5, _), (6, _), (7, _), (8, _), (9, _), (10, _), (11, _), (35, _), (36, _), (59, _), (60, _), (61, _), (67, _)] ⟨rfl, rfl, rfl, rfl, rfl, rfl, rfl, rfl, rfl, rfl, rfl, rfl, rfl, rfl, rfl, rfl, rfl, trivial⟩ ?_
                            refine V_nil (.inl rfl) ?_
                            -- again R20 1
                            refine E_meet (decide (ts.getD (st.length * s + i) 0 ≤ 0)) ?_ ?_ (fun w h => h)
                            · rw [decide_eq_true_iff]
                              exact ⟨fun h => ⟨by assumption, fun _ => h⟩, fun h => h.2 (by omega)⟩
                            · refine ⟨?_, ?_, ?_, ?_, ?_, ?_, ?_, ?_, ?_, ?_, ?_, ?_, ?_, ?_, ?_, trivial⟩ <;> first | rfl | exact int_eq (by omega)
                        · skip
                          refine V_pass (.n .p) (1, true) rfl rfl ?_   -- 20.2
                          refine V_pass (.n .p) (1, true) rfl rfl ?_   -- 20.3
                          refine V_pass (.n .p) (1, true) rfl rfl ?_   -- 20.4
                          refine V_pass (.n .p) (1, true) rfl rfl ?_   -- 20.5
                          refine V_pass (.n .p) (1, true) rfl rfl ?_   -- 20.6
                          refine V_pass (.n .p) (1, true) rfl rfl ?_   -- 20.7
                          refine V_pass (.n .p) (7, false) rfl rfl ?_   -- 20.8
                          refine V_pass (.n .p) (7, false) rfl rfl ?_   -- 20.9
                          refine V_pass (.n .p) (7, false) rfl rfl ?_   -- 20.10
                          refine V_pass (.n .p) (7, false) rfl rfl ?_   -- 20.11
                          refine V_pass (.n .p) (7, false) rfl rfl ?_   -- 20.12
                          refine V_pass (.n .p) (7, false) rfl rfl ?_   -- 20.13
                          refine V_pass (.n .p) (7, false) rfl rfl ?_   -- 20.14
                          refine V_pass (.n .p) (7, false) rfl rfl ?_   -- 20.15
                          refine V_pass (.n .p) (7, false) rfl rfl ?_   -- 20.16
                          refine V_pass (.n .p) (1, true) rfl rfl ?_   -- 20.17
                          refine V_pickF (.n _) rfl rfl rfl ?_   -- 20.18
                          refine V_asg (.n _) rfl rfl ?_   -- 20.19
                          refine V_sub [(0, _), (1, _), (2, _), (4, _), (5, _), (6, _), (7, _), (8, _), (9, _), (10, _), (11, _), (35, _), (36, _), (59, _), (60, _), (61, _), (67, _)] ⟨rfl, rfl, rfl, rfl, rfl, rfl, rfl, rfl, rfl, rfl, rfl, rfl, rfl, rfl, rfl, rfl, rfl, trivial⟩ ?_
                          refine V_nil (.inl rfl) ?_
                          -- again R20 2
                          refine E_meet (false) ?_ ?_ (fun w h => h)
                          · refine iff_of_false (by simp) (fun hh => ?_)
                            simp_all
                          · refine ⟨?_, ?_, ?_, ?_, ?_, ?_, ?_, ?_, ?_, ?_, ?_, ?_, ?_, ?_, ?_, trivial⟩ <;> first | rfl | exact int_eq (by omega)
                      · rintro z2 hz2
                        refine E_then ?_
                        refine J_seq ?_
                        refine J_region ?_
                        refine V_mov (.n _) rfl rfl ?_   -- 21.0
                        refine V_mov (.n _) rfl rfl ?_   -- 21.1
                        refine V_sub [(0, _), (1, _), (2, _), (4, _), (5, _), (6, _), (7, _), (8, _), (9, _), (10, _), (11, _), (35, _), (36, _), (59, _), (60, _), (87, _), (88, _)] ⟨rfl, rfl, rfl, rfl, rfl, rfl, rfl, rfl, rfl, rfl, rfl, rfl, rfl, rfl, rfl, rfl, rfl, trivial⟩ ?_
                        refine V_nil (.inl rfl) ?_
                        refine E_then ?_
                        refine J_block ?_
                        -- loop L2
                        refine J_loop (X := Nat × Bool) (fun x => [(0, (.agg #[.slice A1 st.length c1, .slice A2 ch.length c2, .slice A3 be.length c3])), (1, (.slice AT ts.length cT)), (2, (.pointer (some ⟨b2, 0, none⟩))), (4, (.int .i64 (0))), (5, (.bool false)), (6, (.int .i64 (0))), (7, (.int .i64 (st.length : Nat))), (8, .int .i64 (bestJ (natB be) (fun i => st.getD i 0 + ts.getD (st.length * 2 ^ i + i) 0) 0 (2 * far2) (List.range (i + 1)))), (9, .bool x.2), (10, .int .i64 (i : Nat)), (11, .int .i64 (s : Nat)), (35, (.int .i64 (st.length : Nat))), (36, .int .i64 (i : Nat)), (59, (.int .i64 ((2 ^ st.length : Nat) : Int))), (60, .int .i64 (s : Nat)), (87, (.int .i64 (st.length : Nat))), (88, .int .i64 (x.1 : Nat))]) (fun x => [.c b2 48 [.slice A1 st.length c1, .slice A2 ch.length c2, .slice A3 be.length c3]]) (fun x => x.1 ≤ st.length ∧ (x.2 = true ↔ z2 = true ∧ ∀ j, j < x.1 → (fun j => fol (natB be) s j = true → ts.getD (st.length * s + i) 0 ≤ cst ch i j + ts.getD (st.length * (s ||| 2 ^ j) + j) 0) j)) (fun x => st.length - x.1) (0, z2) (by refine ⟨?_, ?_, ?_, ?_, ?_, ?_, ?_, ?_, ?_, ?_, ?_, ?_, ?_, ?_, ?_, ?_, ?_, trivial⟩ <;> first | rfl | exact int_eq (by omega)) (fun w h => h) ?_ ?_
                        · exact ⟨Nat.zero_le _, ⟨fun h => ⟨h, fun i hi => by omega⟩, fun h => h.1⟩⟩
                        · rintro ⟨j, z3⟩ ⟨hj, hz3⟩
                          dsimp only at hj hz3 ⊢
                          refine J_seq ?_
                          refine J_region ?_
                          refine V_lss (.n _) rfl rfl rfl ?_   -- 22.0
                          refine V_sub [(0, _), (1, _), (2, _), (4, _), (5, _), (6, _), (7, _), (8, _), (9, _), (10, _), (11, _), (35, _), (36, _), (59, _), (60, _), (87, _), (88, _), (89, _)] ⟨rfl, rfl, rfl, rfl, rfl, rfl, rfl, rfl, rfl, rfl, rfl, rfl, rfl, rfl, rfl, rfl, rfl, rfl, trivial⟩ ?_
                          refine V_nil (.inl rfl) ?_
                          refine E_then ?_
                          refine J_seq ?_
                          refine J_cond rfl (fun h11 => ?_) (fun h11 => ?_)   -- C8
                          · skip
                            refine J_skip ?_
                            refine E_then ?_
                            refine J_seq ?_
                            refine J_block ?_
                            refine J_seq ?_
                            refine J_region ?_
                            refine V_mov (.n _) rfl rfl ?_   -- 23.0
                            refine V_asg (.n _) rfl rfl ?_   -- 23.1
                            refine V_sub [(0, _), (1, _), (2, _), (4, _), (5, _), (6, _), (7, _), (8, _), (9, _), (10, _), (11, _), (12, _), (35, _), (36, _), (59, _), (60, _), (87, _), (88, _), (89, _)] ⟨rfl, rfl, rfl, rfl, rfl, rfl, rfl, rfl, rfl, rfl, rfl, rfl, rfl, rfl, rfl, rfl, rfl, rfl, rfl, trivial⟩ ?_
                            refine V_nil (.inl rfl) ?_
                            refine E_then ?_
                            refine J_seq ?_
                            refine J_draw (Gs := _) (cl := [.r, .p, .p, .e, .p, .p, .p, .p, .p, .p, .p, .p, .r, .p, .r, .p, .p, .r, .p, .p, .r, .p, .p, .p, .p, .p, .p, .p, .p, .p, .p, .r, .p, .p, .p]) (by kernel_rfl) (fun _ _ h => h) ?_
                            refine V_ldN (.s _ _ _) Tryd.isAgg48 Tryd.sizeOf48 rfl (by repeat (first | exact List.Mem.head _ | assumption | apply List.Mem.tail)) (by rfl) rfl rfl ?_   -- 24.0
                            refine V_mov (.s _ _ _) rfl rfl ?_   -- 24.1
                            refine V_mov (.s _ _ _) rfl rfl ?_   -- 24.2
                            refine V_call0 (.s _ _ _) Tryd.call83 (.cons rfl (.cons rfl (.cons rfl .nil))) (fun w1 hw1 => rfollows_spec w1 A1 A2 A3 c1 c2 c3 vs st ch be hl1 hl2 hl3 (hp.keep hw1) s j hv (by omega) (by omega)) rfl (fun _ _ h => h.sublist (by simp)) ?_   -- 24.3
                            refine V_mov (.s _ _ _) rfl rfl ?_   -- 24.4
                            refine V_splitB 95 rfl (fun h12 => ?_) (fun h12 => ?_)   -- guard 24.4
                            · skip
                              refine V_go (4, true) rfl ?_
                              refine V_mov (.s _ _ _) rfl rfl ?_   -- 24.5
                              refine V_go (4, true) rfl ?_
                              refine V_mov (.s _ _ _) rfl rfl ?_   -- 24.6
                              refine V_go (4, true) rfl ?_
                              refine V_mov (.s _ _ _) rfl rfl ?_   -- 24.7
                              refine V_go (4, true) rfl ?_
                              have hix0 := ix_lt (n := st.length) (s := s) (i := i) (m := 2 ^ st.length) (by omega) (by omega)
                              refine V_mul (.s _ _ _) rfl rfl (by rw [mulcast]; exact wrap_nat (by omega)) rfl ?_   -- 24.8
                              rw [mulcast]
                              refine V_go (4, true) rfl ?_
                              refine V_mov (.s _ _ _) rfl rfl ?_   -- 24.9
                              refine V_go (4, true) rfl ?_
                              refine V_add (.s _ _ _) rfl rfl (wrap_ok (by omega)) rfl ?_   -- 24.10
                              rw [show ((st.length * s : Nat) : Int) + (i : Int) = ((st.length * s + i : Nat) : Int) by omega]
                              refine V_go (4, true) rfl ?_
                              first | refine V_ix (.s _ _ _) Tryd.underlying34 Tryd.sizeOf3 rfl rfl (by omega) (by omega) rfl ?_ | refine V_ixz (.s _ _ _) Tryd.underlying34 Tryd.sizeOf3 rfl rfl (hp.h2.rd.pl (by rw [hp.h2.len]; omega)) (by omega) (by omega) rfl ?_ | refine V_ixz (.s _ _ _) Tryd.underlying34 Tryd.sizeOf3 rfl rfl (hrr.pl (by simp)) (by omega) (by omega) rfl ?_ | refine V_ixz (.s _ _ _) Tryd.underlying34 Tryd.sizeOf3 rfl rfl (hp.h1.pl (by simp)) (by omega) (by omega) rfl ?_ | refine V_ixz (.s _ _ _) Tryd.underlying34 Tryd.sizeOf3 rfl rfl (ht.pl (by simp)) (by omega) (by omega) rfl ?_   -- 24.11
                              refine V_go (4, true) rfl ?_
                              refine V_ldz (.s _ _ _) Tryd.isAgg3 rfl ht (I_getN (i := st.length * s + i) (by omega)) rfl ?_   -- 24.12
                              refine V_go (4, true) rfl ?_
                              first | refine V_fa0 (.s _ _ _) fo48_1 rfl rfl ?_ | refine V_faz (.s _ _ _) fo48_1 rfl rfl ?_ | refine V_fa (.s _ _ _) fo48_1 rfl rfl ?_   -- 24.13
                              refine V_go (4, true) rfl ?_
                              refine V_ld (.s _ _ _) Tryd.isAgg45 rfl (by repeat (first | exact List.Mem.head _ | assumption | apply List.Mem.tail)) (by rfl) rfl ?_   -- 24.14
                              refine V_go (4, true) rfl ?_
                              refine V_mov (.s _ _ _) rfl rfl ?_   -- 24.15
                              refine V_go (4, true) rfl ?_
                              first | refine V_ix (.s _ _ _) Tryd.underlying45 Tryd.sizeOf34 rfl rfl (by omega) (by omega) rfl ?_ | refine V_ixz (.s _ _ _) Tryd.underlying45 Tryd.sizeOf34 rfl rfl (hp.h2.rd.pl (by rw [hp.h2.len]; omega)) (by omega) (by omega) rfl ?_ | refine V_ixz (.s _ _ _) Tryd.underlying45 Tryd.sizeOf34 rfl rfl (hrr.pl (by simp)) (by omega) (by omega) rfl ?_ | refine V_ixz (.s _ _ _) Tryd.underlying45 Tryd.sizeOf34 rfl rfl (hp.h1.pl (by simp)) (by omega) (by omega) rfl ?_ | refine V_ixz (.s _ _ _) Tryd.underlying45 Tryd.sizeOf34 rfl rfl (ht.pl (by simp)) (by omega) (by omega) rfl ?_   -- 24.16
                              refine V_go (4, true) rfl ?_
                              obtain ⟨Ai, ci, hrow, hrr⟩ := hp.h2.get (i := i) (by omega)
                              have hrl := (hv.row (i := i) (by omega)).1
                              refine V_ldz (.s _ _ _) Tryd.isAgg34 rfl hp.h2.rd hrow rfl ?_   -- 24.17
                              refine V_go (4, true) rfl ?_
                              refine V_mov (.s _ _ _) rfl rfl ?_   -- 24.18
                              refine V_go (4, true) rfl ?_
                              first | refine V_ix (.s _ _ _) Tryd.underlying34 Tryd.sizeOf3 rfl rfl (by omega) (by omega) rfl ?_ | refine V_ixz (.s _ _ _) Tryd.underlying34 Tryd.sizeOf3 rfl rfl (hp.h2.rd.pl (by rw [hp.h2.len]; omega)) (by omega) (by omega) rfl ?_ | refine V_ixz (.s _ _ _) Tryd.underlying34 Tryd.sizeOf3 rfl rfl (hrr.pl (by simp)) (by omega) (by omega) rfl ?_ | refine V_ixz (.s _ _ _) Tryd.underlying34 Tryd.sizeOf3 rfl rfl (hp.h1.pl (by simp)) (by omega) (by omega) rfl ?_ | refine V_ixz (.s _ _ _) Tryd.underlying34 Tryd.sizeOf3 rfl rfl (ht.pl (by simp)) (by omega) (by omega) rfl ?_   -- 24.19
                              refine V_go (4, true) rfl ?_
                              refine V_ldz (.s _ _ _) Tryd.isAgg3 rfl hrr (I_getN (i := j) (by omega)) rfl ?_   -- 24.20
                              rw [show (ch.getD i []).getD j 0 = cst ch i j from rfl]
                              have hcb := hv.ok.change i j (by omega) (by omega)
                              refine V_go (4, true) rfl ?_
                              refine V_mov (.s _ _ _) rfl rfl ?_   -- 24.21
                              refine V_go (4, true) rfl ?_
                              refine V_mov (.s _ _ _) rfl rfl ?_   -- 24.22
                              refine V_go (4, true) rfl ?_
                              refine V_mov (.s _ _ _) rfl rfl ?_   -- 24.23
                              refine V_go (4, true) rfl ?_
                              refine V_mov (.s _ _ _) rfl rfl ?_   -- 24.24
                              refine V_go (4, true) rfl ?_
                              have hsj := or_lt (show s < 2 ^ st.length by omega) (show j < st.length by omega)
                              have hsg := or_gt (fol_not (by assumption : fol (natB be) s j = true))
                              have hix := ix_lt (n := st.length) (s := s ||| 2 ^ j) (i := j) (m := 2 ^ st.length) (by omega) hsj
                              have hbt2 := out_bd hao (st.length * (s ||| 2 ^ j) + j)
                              have hbt1 := out_bd hao (st.length * s + i)
                              refine V_shl (.s _ _ _) rfl rfl (by omega) (by simp [IntKind.bits]; omega) (by rw [shl_nat]; exact wrap_nat (lt63 (Nat.pow_lt_pow_right (by decide) (show j < 10 by omega)) (Nat.le_refl _))) rfl ?_   -- 24.25
                              rw [shl_nat]
                              refine V_go (4, true) rfl ?_
                              refine V_or (r := ((s ||| 2 ^ j : Nat) : Int)) (.s _ _ _) rfl rfl (bits_or (by omega) (lt63 (Nat.pow_lt_pow_right (by decide) (show j < 10 by omega)) (Nat.le_refl _))) rfl ?_   -- 24.26
                              refine V_go (4, true) rfl ?_
                              refine V_mul (.s _ _ _) rfl rfl (by rw [mulcast]; exact wrap_nat (by omega)) rfl ?_   -- 24.27
                              rw [mulcast]
                              refine V_go (4, true) rfl ?_
                              refine V_mov (.s _ _ _) rfl rfl ?_   -- 24.28
                              refine V_go (4, true) rfl ?_
                              refine V_add (.s _ _ _) rfl rfl (wrap_ok (by omega)) rfl ?_   -- 24.29
                              rw [show ((st.length * (s ||| 2 ^ j) : Nat) : Int) + (j : Int) = ((st.length * (s ||| 2 ^ j) + j : Nat) : Int) by omega]
                              refine V_go (4, true) rfl ?_
                              first | refine V_ix (.s _ _ _) Tryd.underlying34 Tryd.sizeOf3 rfl rfl (by omega) (by omega) rfl ?_ | refine V_ixz (.s _ _ _) Tryd.underlying34 Tryd.sizeOf3 rfl rfl (hp.h2.rd.pl (by rw [hp.h2.len]; omega)) (by omega) (by omega) rfl ?_ | refine V_ixz (.s _ _ _) Tryd.underlying34 Tryd.sizeOf3 rfl rfl (hrr.pl (by simp)) (by omega) (by omega) rfl ?_ | refine V_ixz (.s _ _ _) Tryd.underlying34 Tryd.sizeOf3 rfl rfl (hp.h1.pl (by simp)) (by omega) (by omega) rfl ?_ | refine V_ixz (.s _ _ _) Tryd.underlying34 Tryd.sizeOf3 rfl rfl (ht.pl (by simp)) (by omega) (by omega) rfl ?_   -- 24.30
                              refine V_go (4, true) rfl ?_
                              refine V_ldz (.s _ _ _) Tryd.isAgg3 rfl ht (I_getN (i := st.length * (s ||| 2 ^ j) + j) (by omega)) rfl ?_   -- 24.31
                              refine V_go (4, true) rfl ?_
                              refine V_add (.s _ _ _) rfl rfl (wrap_ok (by omega)) rfl ?_   -- 24.32
                              refine V_go (4, true) rfl ?_
                              refine V_gtr (.s _ _ _) rfl rfl rfl ?_   -- 24.33
                              refine V_pickT (.s _ _ _) rfl rfl rfl ?_   -- 24.34
                              refine V_sub [(0, _), (1, _), (2, _), (4, _), (5, _), (6, _), (7, _), (8, _), (9, _), (10, _), (11, _), (12, _), (35, _), (36, _), (59, _), (60, _), (87, _), (88, _), (89, _), (125, _)] ⟨rfl, rfl, rfl, rfl, rfl, rfl, rfl, rfl, rfl, rfl, rfl, rfl, rfl, rfl, rfl, rfl, rfl, rfl, rfl, rfl, trivial⟩ ?_
                              refine V_nil (.inr ⟨_, rfl⟩) ?_
                              refine E_then ?_
                              refine J_cond rfl (fun h13 => ?_) (fun h13 => ?_)   -- C9
                              · skip
                                refine J_region ?_
                                refine V_asg (.n _) rfl rfl ?_   -- 25.0
                                refine V_sub [(0, _), (1, _), (2, _), (4, _), (5, _), (6, _), (7, _), (8, _), (9, _), (10, _), (11, _), (12, _), (35, _), (36, _), (59, _), (60, _), (87, _), (88, _), (89, _), (125, _)] ⟨rfl, rfl, rfl, rfl, rfl, rfl, rfl, rfl, rfl, rfl, rfl, rfl, rfl, rfl, rfl, rfl, rfl, rfl, rfl, rfl, trivial⟩ ?_
                                refine V_nil (.inl rfl) ?_
                                refine E_blk ?_
                                refine E_then ?_
                                refine J_region ?_
                                refine V_add (.n _) rfl rfl (wrap_ok (by omega)) rfl ?_   -- 26.0
                                refine V_mov (.n _) rfl rfl ?_   -- 26.1
                                refine V_sub [(0, _), (1, _), (2, _), (4, _), (5, _), (6, _), (7, _), (8, _), (9, _), (10, _), (11, _), (12, _), (35, _), (36, _), (59, _), (60, _), (87, _), (88, _), (89, _), (125, _)] ⟨rfl, rfl, rfl, rfl, rfl, rfl, rfl, rfl, rfl, rfl, rfl, rfl, rfl, rfl, rfl, rfl, rfl, rfl, rfl, rfl, trivial⟩ ?_
                                refine V_nil (.inl rfl) ?_
                                -- again L2 0
                                refine E_again (X := Nat × Bool) (KI := fun x => [(0, (.agg #[.slice A1 st.length c1, .slice A2 ch.length c2, .slice A3 be.length c3])), (1, (.slice AT ts.length cT)), (2, (.pointer (some ⟨b2, 0, none⟩))), (4, (.int .i64 (0))), (5, (.bool false)), (6, (.int .i64 (0))), (7, (.int .i64 (st.length : Nat))), (8, .int .i64 (bestJ (natB be) (fun i => st.getD i 0 + ts.getD (st.length * 2 ^ i + i) 0) 0 (2 * far2) (List.range (i + 1)))), (9, .bool x.2), (10, .int .i64 (i : Nat)), (11, .int .i64 (s : Nat)), (35, (.int .i64 (st.length : Nat))), (36, .int .i64 (i : Nat)), (59, (.int .i64 ((2 ^ st.length : Nat) : Int))), (60, .int .i64 (s : Nat)), (87, (.int .i64 (st.length : Nat))), (88, .int .i64 (x.1 : Nat))]) (GI := fun x => [.c b2 48 [.slice A1 st.length c1, .slice A2 ch.length c2, .slice A3 be.length c3]]) (I := fun x => x.1 ≤ st.length ∧ (x.2 = true ↔ z2 = true ∧ ∀ j, j < x.1 → (fun j => fol (natB be) s j = true → ts.getD (st.length * s + i) 0 ≤ cst ch i j + ts.getD (st.length * (s ||| 2 ^ j) + j) 0) j)) (μ := fun x => st.length - x.1) (x := (j, z3)) ((j + 1, false)) ?_ ?_ ?_ (fun w h => h)
                                · show st.length - (j + 1) < st.length - j; omega
                                · dsimp only
                                  refine ⟨by omega, iff_next hz3 (iff_of_false (by simp) (fun hh => ?_))⟩
                                  have := hh.2 (by assumption)
                                  omega
                                · refine ⟨?_, ?_, ?_, ?_, ?_, ?_, ?_, ?_, ?_, ?_, ?_, ?_, ?_, ?_, ?_, ?_, ?_, trivial⟩ <;> first | rfl | exact int_eq (by omega) | exact int_eq (by dsimp only; omega)
                              · skip
                                refine J_skip ?_
                                refine E_blk ?_
                                refine E_then ?_
                                refine J_region ?_
                                refine V_add (.n _) rfl rfl (wrap_ok (by omega)) rfl ?_   -- 26.0
                                refine V_mov (.n _) rfl rfl ?_   -- 26.1
                                refine V_sub [(0, _), (1, _), (2, _), (4, _), (5, _), (6, _), (7, _), (8, _), (9, _), (10, _), (11, _), (12, _), (35, _), (36, _), (59, _), (60, _), (87, _), (88, _), (89, _), (125, _)] ⟨rfl, rfl, rfl, rfl, rfl, rfl, rfl, rfl, rfl, rfl, rfl, rfl, rfl, rfl, rfl, rfl, rfl, rfl, rfl, rfl, trivial⟩ ?_
                                refine V_nil (.inl rfl) ?_
                                -- again L2 1
                                refine E_again (X := Nat × Bool) (KI := fun x => [(0, (.agg #[.slice A1 st.length c1, .slice A2 ch.length c2, .slice A3 be.length c3])), (1, (.slice AT ts.length cT)), (2, (.pointer (some ⟨b2, 0, none⟩))), (4, (.int .i64 (0))), (5, (.bool false)), (6, (.int .i64 (0))), (7, (.int .i64 (st.length : Nat))), (8, .int .i64 (bestJ (natB be) (fun i => st.getD i 0 + ts.getD (st.length * 2 ^ i + i) 0) 0 (2 * far2) (List.range (i + 1)))), (9, .bool x.2), (10, .int .i64 (i : Nat)), (11, .int .i64 (s : Nat)), (35, (.int .i64 (st.length : Nat))), (36, .int .i64 (i : Nat)), (59, (.int .i64 ((2 ^ st.length : Nat) : Int))), (60, .int .i64 (s : Nat)), (87, (.int .i64 (st.length : Nat))), (88, .int .i64 (x.1 : Nat))]) (GI := fun x => [.c b2 48 [.slice A1 st.length c1, .slice A2 ch.length c2, .slice A3 be.length c3]]) (I := fun x => x.1 ≤ st.length ∧ (x.2 = true ↔ z2 = true ∧ ∀ j, j < x.1 → (fun j => fol (natB be) s j = true → ts.getD (st.length * s + i) 0 ≤ cst ch i j + ts.getD (st.length * (s ||| 2 ^ j) + j) 0) j)) (μ := fun x => st.length - x.1) (x := (j, z3)) ((j + 1, z3)) ?_ ?_ ?_ (fun w h => h)
                                · show st.length - (j + 1) < st.length - j; omega
                                · dsimp only
                                  refine ⟨by omega, iff_next hz3 ⟨fun h => ⟨h, fun hf => by first | omega | simp_all⟩, fun h => h.1⟩⟩
                                · refine ⟨?_, ?_, ?_, ?_, ?_, ?_, ?_, ?_, ?_, ?_, ?_, ?_, ?_, ?_, ?_, ?_, ?_, trivial⟩ <;> first | rfl | exact int_eq (by omega) | exact int_eq (by dsimp only; omega)
                            · skip
                              refine V_pass (.s _ _ _) (4, true) rfl rfl ?_   -- 24.5
                              refine V_pass (.s _ _ _) (4, true) rfl rfl ?_   -- 24.6
                              refine V_pass (.s _ _ _) (4, true) rfl rfl ?_   -- 24.7
                              refine V_pass (.s _ _ _) (4, true) rfl rfl ?_   -- 24.8
                              refine V_pass (.s _ _ _) (4, true) rfl rfl ?_   -- 24.9
                              refine V_pass (.s _ _ _) (4, true) rfl rfl ?_   -- 24.10
                              refine V_pass (.s _ _ _) (4, true) rfl rfl ?_   -- 24.11
                              refine V_pass (.s _ _ _) (4, true) rfl rfl ?_   -- 24.12
                              refine V_pass (.s _ _ _) (4, true) rfl rfl ?_   -- 24.13
                              refine V_pass (.s _ _ _) (4, true) rfl rfl ?_   -- 24.14
                              refine V_pass (.s _ _ _) (4, true) rfl rfl ?_   -- 24.15
                              refine V_pass (.s _ _ _) (4, true) rfl rfl ?_   -- 24.16
                              refine V_pass (.s _ _ _) (4, true) rfl rfl ?_   -- 24.17
                              refine V_pass (.s _ _ _) (4, true) rfl rfl ?_   -- 24.18
                              refine V_pass (.s _ _ _) (4, true) rfl rfl ?_   -- 24.19
                              refine V_pass (.s _ _ _) (4, true) rfl rfl ?_   -- 24.20
                              refine V_pass (.s _ _ _) (4, true) rfl rfl ?_   -- 24.21
                              refine V_pass (.s _ _ _) (4, true) rfl rfl ?_   -- 24.22
                              refine V_pass (.s _ _ _) (4, true) rfl rfl ?_   -- 24.23
                              refine V_pass (.s _ _ _) (4, true) rfl rfl ?_   -- 24.24
                              refine V_pass (.s _ _ _) (4, true) rfl rfl ?_   -- 24.25
                              refine V_pass (.s _ _ _) (4, true) rfl rfl ?_   -- 24.26
                              refine V_pass (.s _ _ _) (4, true) rfl rfl ?_   -- 24.27
                              refine V_pass (.s _ _ _) (4, true) rfl rfl ?_   -- 24.28
                              refine V_pass (.s _ _ _) (4, true) rfl rfl ?_   -- 24.29
                              refine V_pass (.s _ _ _) (4, true) rfl rfl ?_   -- 24.30
                              refine V_pass (.s _ _ _) (4, true) rfl rfl ?_   -- 24.31
                              refine V_pass (.s _ _ _) (4, true) rfl rfl ?_   -- 24.32
                              refine V_pass (.s _ _ _) (4, true) rfl rfl ?_   -- 24.33
                              refine V_pickF (.s _ _ _) rfl rfl rfl ?_   -- 24.34
                              refine V_sub [(0, _), (1, _), (2, _), (4, _), (5, _), (6, _), (7, _), (8, _), (9, _), (10, _), (11, _), (12, _), (35, _), (36, _), (59, _), (60, _), (87, _), (88, _), (89, _), (125, _)] ⟨rfl, rfl, rfl, rfl, rfl, rfl, rfl, rfl, rfl, rfl, rfl, rfl, rfl, rfl, rfl, rfl, rfl, rfl, rfl, rfl, trivial⟩ ?_
                              refine V_nil (.inr ⟨_, rfl⟩) ?_
                              refine E_then ?_
                              refine J_condF rfl ?_
                              refine J_skip ?_
                              refine E_blk ?_
                              refine E_then ?_
                              refine J_region ?_
                              refine V_add (.n _) rfl rfl (wrap_ok (by omega)) rfl ?_   -- 26.0
                              refine V_mov (.n _) rfl rfl ?_   -- 26.1
                              refine V_sub [(0, _), (1, _), (2, _), (4, _), (5, _), (6, _), (7, _), (8, _), (9, _), (10, _), (11, _), (12, _), (35, _), (36, _), (59, _), (60, _), (87, _), (88, _), (89, _), (125, _)] ⟨rfl, rfl, rfl, rfl, rfl, rfl, rfl, rfl, rfl, rfl, rfl, rfl, rfl, rfl, rfl, rfl, rfl, rfl, rfl, rfl, trivial⟩ ?_
                              refine V_nil (.inl rfl) ?_
                              -- again L2 2
                              refine E_again (X := Nat × Bool) (KI := fun x => [(0, (.agg #[.slice A1 st.length c1, .slice A2 ch.length c2, .slice A3 be.length c3])), (1, (.slice AT ts.length cT)), (2, (.pointer (some ⟨b2, 0, none⟩))), (4, (.int .i64 (0))), (5, (.bool false)), (6, (.int .i64 (0))), (7, (.int .i64 (st.length : Nat))), (8, .int .i64 (bestJ (natB be) (fun i => st.getD i 0 + ts.getD (st.length * 2 ^ i + i) 0) 0 (2 * far2) (List.range (i + 1)))), (9, .bool x.2), (10, .int .i64 (i : Nat)), (11, .int .i64 (s : Nat)), (35, (.int .i64 (st.length : Nat))), (36, .int .i64 (i : Nat)), (59, (.int .i64 ((2 ^ st.length : Nat) : Int))), (60, .int .i64 (s : Nat)), (87, (.int .i64 (st.length : Nat))), (88, .int .i64 (x.1 : Nat))]) (GI := fun x => [.c b2 48 [.slice A1 st.length c1, .slice A2 ch.length c2, .slice A3 be.length c3]]) (I := fun x => x.1 ≤ st.length ∧ (x.2 = true ↔ z2 = true ∧ ∀ j, j < x.1 → (fun j => fol (natB be) s j = true → ts.getD (st.length * s + i) 0 ≤ cst ch i j + ts.getD (st.length * (s ||| 2 ^ j) + j) 0) j)) (μ := fun x => st.length - x.1) (x := (j, z3)) ((j + 1, z3)) ?_ ?_ ?_ (fun w h => h)
                              · show st.length - (j + 1) < st.length - j; omega
                              · dsimp only
                                refine ⟨by omega, iff_next hz3 ⟨fun h => ⟨h, fun hf => by first | omega | simp_all⟩, fun h => h.1⟩⟩
                              · refine ⟨?_, ?_, ?_, ?_, ?_, ?_, ?_, ?_, ?_, ?_, ?_, ?_, ?_, ?_, ?_, ?_, ?_, trivial⟩ <;> first | rfl | exact int_eq (by omega) | exact int_eq (by dsimp only; omega)
                          · skip
                            refine J_exit ?_
                            refine E_then_exit ?_
                            refine E_lp_exit ?_
                            refine E_blk_hit ?_
                            refine E_blk ?_
                            refine E_then ?_
                            refine J_region ?_
                            refine V_add (.n _) rfl rfl (wrap_ok (by omega)) rfl ?_   -- 27.0
                            refine V_mov (.n _) rfl rfl ?_   -- 27.1
                            refine V_sub [(0, _), (1, _), (2, _), (4, _), (5, _), (6, _), (7, _), (8, _), (9, _), (10, _), (11, _), (35, _), (36, _), (59, _), (60, _), (87, _), (88, _), (89, _)] ⟨rfl, rfl, rfl, rfl, rfl, rfl, rfl, rfl, rfl, rfl, rfl, rfl, rfl, rfl, rfl, rfl, rfl, rfl, trivial⟩ ?_
                            refine V_nil (.inl rfl) ?_
                            -- again L1 1
                            obtain rfl : j = st.length := by omega
                            refine E_again (X := Nat × Bool) (KI := fun x => [(0, (.agg #[.slice A1 st.length c1, .slice A2 ch.length c2, .slice A3 be.length c3])), (1, (.slice AT ts.length cT)), (2, (.pointer (some ⟨b2, 0, none⟩))), (4, (.int .i64 (0))), (5, (.bool false)), (6, (.int .i64 (0))), (7, (.int .i64 (st.length : Nat))), (8, .int .i64 (bestJ (natB be) (fun i => st.getD i 0 + ts.getD (st.length * 2 ^ i + i) 0) 0 (2 * far2) (List.range (i + 1)))), (9, .bool x.2), (10, .int .i64 (i : Nat)), (35, (.int .i64 (st.length : Nat))), (36, .int .i64 (i : Nat)), (59, (.int .i64 ((2 ^ st.length : Nat) : Int))), (60, .int .i64 (x.1 : Nat))]) (GI := fun x => [.c b2 48 [.slice A1 st.length c1, .slice A2 ch.length c2, .slice A3 be.length c3]]) (I := fun x => x.1 ≤ 2 ^ st.length ∧ (x.2 = true ↔ z0 = true ∧ ∀ s, s < x.1 → Cell st.length ch (natB be) ts s i)) (μ := fun x => 2 ^ st.length - x.1) (x := (s, z1)) ((s + 1, z3)) ?_ ?_ ?_ (fun w h => h)
                            · show 2 ^ st.length - (s + 1) < 2 ^ st.length - s; omega
                            · dsimp only
                              refine ⟨by omega, iff_next hz1 ?_⟩
                              rw [hz3, hz2, cell_yes hbit, and_assoc]
                            · refine ⟨?_, ?_, ?_, ?_, ?_, ?_, ?_, ?_, ?_, ?_, ?_, ?_, ?_, ?_, trivial⟩ <;> first | rfl | exact int_eq (by omega) | exact int_eq (by dsimp only; omega)
                  · skip
                    refine J_exit ?_
                    refine E_then_exit ?_
                    refine E_lp_exit ?_
                    refine E_blk_hit ?_
                    refine E_blk ?_
                    refine E_then ?_
                    refine J_region ?_
                    refine V_add (.n _) rfl rfl (wrap_ok (by omega)) rfl ?_   -- 28.0
                    refine V_mov (.n _) rfl rfl ?_   -- 28.1
                    refine V_sub [(0, _), (1, _), (2, _), (4, _), (5, _), (6, _), (7, _), (8, _), (9, _), (10, _), (35, _), (36, _), (59, _), (60, _), (61, _)] ⟨rfl, rfl, rfl, rfl, rfl, rfl, rfl, rfl, rfl, rfl, rfl, rfl, rfl, rfl, rfl, trivial⟩ ?_
                    refine V_nil (.inl rfl) ?_
                    -- again L0 0
                    obtain rfl : s = 2 ^ st.length := by omega
                    refine E_again (X := Nat × Bool) (KI := fun x => [(0, (.agg #[.slice A1 st.length c1, .slice A2 ch.length c2, .slice A3 be.length c3])), (1, (.slice AT ts.length cT)), (2, (.pointer (some ⟨b2, 0, none⟩))), (4, (.int .i64 (0))), (5, (.bool false)), (6, (.int .i64 (0))), (7, (.int .i64 (st.length : Nat))), (8, .int .i64 (bestJ (natB be) (fun i => st.getD i 0 + ts.getD (st.length * 2 ^ i + i) 0) 0 (2 * far2) (List.range x.1))), (9, .bool x.2), (35, (.int .i64 (st.length : Nat))), (36, .int .i64 (x.1 : Nat))]) (GI := fun x => [.c b2 48 [.slice A1 st.length c1, .slice A2 ch.length c2, .slice A3 be.length c3]]) (I := fun x => x.1 ≤ st.length ∧ (x.2 = true ↔ True ∧ ∀ i, i < x.1 → ∀ s, s < 2 ^ st.length → Cell st.length ch (natB be) ts s i)) (μ := fun x => st.length - x.1) (x := (i, z0)) ((i + 1, z1)) ?_ ?_ ?_ (fun w h => h)
                    · show st.length - (i + 1) < st.length - i; omega
                    · dsimp only
                      exact ⟨by omega, iff_next hz hz1⟩
                    · refine ⟨?_, ?_, ?_, ?_, ?_, ?_, ?_, ?_, ?_, ?_, ?_, trivial⟩ <;> first | rfl | exact int_eq (by omega) | exact int_eq (by dsimp only; omega)
            · skip
              refine J_exit ?_
              refine E_then_exit ?_
              refine E_lp_exit ?_
              refine E_blk_hit ?_
              refine E_then ?_
              refine J_seq ?_
              refine J_region ?_
              refine V_mov (.n _) rfl rfl ?_   -- 29.0
              refine V_mov (.n _) rfl rfl ?_   -- 29.1
              refine V_asg (.n _) rfl rfl ?_   -- 29.2
              refine V_asg (.n _) rfl rfl ?_   -- 29.3
              refine V_asg (.n _) rfl rfl ?_   -- 29.4
              refine V_sub [(0, _), (1, _), (2, _), (4, _), (5, _), (6, _), (7, _), (8, _), (9, _), (35, _), (36, _), (37, _)] ⟨rfl, rfl, rfl, rfl, rfl, rfl, rfl, rfl, rfl, rfl, rfl, rfl, trivial⟩ ?_
              refine V_nil (.inl rfl) ?_
              refine E_then ?_
              refine J_ret ?_
              -- return R4
              refine E_ret3 Tryd.results39 rfl rfl rfl (fun w hw => ?_)
              obtain rfl : i = st.length := by omega
              have hbs : soundB st.length ch (natB be) ts = z0 := by
                rw [Bool.eq_iff_iff, soundB_iff, hz]
                exact ⟨fun h => ⟨trivial, fun i hi s hs => h s hs i hi⟩, fun h s hs i hi => h.2 i hi s hs⟩
              exact ⟨by rw [checkR_5 hv htl hao hpo, hbs]; rfl, hw.sub (fun x hx => by simp at hx) (by simp [keys])⟩

end Go.Proofs.YtgeahmmepfmcoaaDoor
