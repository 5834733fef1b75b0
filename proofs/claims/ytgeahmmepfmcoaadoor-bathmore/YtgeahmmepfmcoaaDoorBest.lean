/- parts of the proofs of the bath statements -/
import Derived.Test.YtgeahmmepfmcoaaDoorCheck
namespace Go.Proofs.YtgeahmmepfmcoaaDoor
open Go Go.RowKit L
set_option linter.unusedVariables false
set_option linter.unusedSimpArgs false

def bestR (st : List Int) (ch : Rows2) (be : List (Int × Int)) : List Int × Int := if validP st ch be = false then ([], 2) else if possible (natB be) st.length = false then ([], 7) else ((bestO st.length st ch (natB be) st.length 0 none).map Int.ofNat, 0)
theorem bestR_no {st : List Int} {ch : Rows2} {be : List (Int × Int)} (h : (!validP st ch be) = true) : bestR st ch be = ([], 2) := by rw [bestR, if_pos (by simpa using h)]
theorem bestR_none {st : List Int} {ch : Rows2} {be : List (Int × Int)} (hv : VP st ch be) (h : possible (natB be) st.length = false) : bestR st ch be = ([], 7) := by
  rw [bestR, if_neg (by rw [validP_iff.2 hv]; simp), if_pos h]
theorem bestR_yes {st : List Int} {ch : Rows2} {be : List (Int × Int)} (hv : VP st ch be) (h : possible (natB be) st.length = true) : bestR st ch be = ((bestO st.length st ch (natB be) st.length 0 none).map Int.ofNat, 0) := by
  rw [bestR, if_neg (by rw [validP_iff.2 hv]; simp), if_neg (by rw [h]; simp)]
theorem find_range {f : Nat → Bool} {n j : Nat} (hj : j < n) (hno : ∀ i, i < j → f i = false) (hy : f j = true) : (List.range n).find? f = some j := by
  have h : (List.range n) = List.range j ++ (List.range (n - j)).map (j + ·) := by
    rw [show n = j + (n - j) by omega, List.range_add]; simp
  rw [h, List.find?_append, List.find?_eq_none.2 (fun i hi => by rw [hno i (List.mem_range.1 hi)]; simp)]
  obtain ⟨m, hm⟩ : ∃ m, n - j = m + 1 := ⟨n - j - 1, by omega⟩
  rw [hm, List.range_succ_eq_map]
  simp [hy]
def costJ (n : Nat) (st : List Int) (ch : Rows2) (B : Pairs) (l : List Nat) (i : Nat) : Int := after1 st ch (lastO none l) i + pay n ch B (endO 0 l ||| 2 ^ i) i
def pk (n : Nat) (st : List Int) (ch : Rows2) (B : Pairs) (l : List Nat) (i : Nat) : Bool := fol B (endO 0 l) i && decide (costJ n st ch B l i = rest n st ch B (endO 0 l) (lastO none l))
theorem pick_here {n : Nat} {st : List Int} {ch : Rows2} {B : Pairs} {l : List Nat} {j : Nat} (hj : j < n) (hno : ∀ i, i < j → pk n st ch B l i = false) (hy : pk n st ch B l j = true) : pick n st ch B (endO 0 l) (lastO none l) = some j := find_range hj hno hy
theorem best_step {n : Nat} {st : List Int} {ch : Rows2} {B : Pairs} {l : List Nat} {j k : Nat} (hk : l.length = k) (hkn : k < n) (hp : pick n st ch B (endO 0 l) (lastO none l) = some j)
    (h : l ++ bestO n st ch B (n - k) (endO 0 l) (lastO none l) = bestO n st ch B n 0 none) : (l ++ [j]) ++ bestO n st ch B (n - (k + 1)) (endO 0 (l ++ [j])) (lastO none (l ++ [j])) = bestO n st ch B n 0 none := by
  rw [← h, endO_app, lastO_app, show n - k = (n - (k + 1)) + 1 by omega, bestO, hp, List.append_assoc, List.singleton_append]
theorem ok_step {n : Nat} {B : Pairs} {l : List Nat} {j : Nat} (h : okO n B 0 l = true) (hj : j < n) (hf : fol B (endO 0 l) j = true) : okO n B 0 (l ++ [j]) = true := by
  rw [okO_app, h, hf, decide_eq_true hj]; rfl
theorem lastO_get : ∀ {l : List Nat} {o : Option Nat} {k : Nat}, l.length = k + 1 → lastO o l = some (l.getD k 0)
  | [x], o, 0, _ => rfl
  | x :: y :: l, o, k + 1, h => by
    have := lastO_get (l := y :: l) (o := some x) (k := k) (by simpa using h)
    show lastO (some x) (y :: l) = _
    rw [this]; simp
theorem ofN_get {l : List Nat} {k : Nat} : (l.map Int.ofNat).getD k 0 = ((l.getD k 0 : Nat) : Int) := by
  rw [List.getD_eq_getElem?_getD, List.getD_eq_getElem?_getD, List.getElem?_map]
  cases l[k]? <;> rfl
theorem ofN_snoc (l : List Nat) (j : Nat) : I (l.map Int.ofNat) ++ [.int .i64 (j : Int)] = I ((l ++ [j]).map Int.ofNat) := by simp [I]
theorem price_bd {n : Nat} {ch : Rows2} {B : Pairs} (hc : Costs n ch) (i : Nat) : -1099511627776 ≤ (priceT n ch B).getD i 0 ∧ (priceT n ch B).getD i 0 ≤ 1099511627776 := by
  have hfar : far2 = 1099511627776 := rfl
  by_cases h : i < n * 2 ^ n
  · rw [priceT, mkT_get h]
    have h0 : 0 < n := by
      rcases Nat.eq_zero_or_pos n with h1 | h1
      · subst h1; simp at h
      · exact h1
    have h1 : i / n < 2 ^ n := Nat.div_lt_of_lt_mul h
    have h2 := pay_bd (be := B) hc (2 ^ n - i / n) (i / n) (i % n) (by omega) (by omega) (Nat.mod_lt _ h0)
    omega
  · have hl : (priceT n ch B).length ≤ i := by rw [priceT, mkT_length]; omega
    rw [List.getD_eq_getElem?_getD, List.getElem?_eq_none hl]
    simp
theorem full_no {n : Nat} {B : Pairs} {l : List Nat} {k : Nat} (hl : l.length = k) (hk : k < n) (h : okO n B 0 l = true) : endO 0 l < 2 ^ n ∧ endO 0 l ≠ 2 ^ n - 1 := by
  have h1 := okO_pc l 0 (Nat.pow_pos (by decide)) h
  refine ⟨h1.2, fun e => ?_⟩
  have := (pc_full h1.2).2 e
  rw [pc_zero] at h1; omega
theorem last_lt {n : Nat} {B : Pairs} {l : List Nat} (h : okO n B 0 l = true) : ∀ i, lastO none l = some i → i < n := by
  intro i hi
  have key : ∀ (l : List Nat) (o : Option Nat), lastO o l = some i → (∀ j ∈ l, j < n) → (∀ j, o = some j → j < n) → i < n := by
    intro l
    induction l with
    | nil => intro o h _ ho; exact ho i h
    | cons x l ih => intro o h hl _; exact ih (some x) h (fun j hj => hl j (by simp [hj])) (fun j hj => by cases hj; exact hl x (by simp))
  exact key l none hi (okO_lt l 0 h) (fun j hj => by cases hj)
theorem rest_step {n : Nat} {st : List Int} {ch : Rows2} {B : Pairs} {l : List Nat} {j k : Nat} {x : Int} (hP : PlanOk n st ch) (hp : possible B n = true) (hl : l.length = k) (hk : k + 1 < n) (h : okO n B 0 l = true) (hj : j < n) (hf : fol B (endO 0 l) j = true)
    (hx : costJ n st ch B l j = x) : x - after1 st ch (lastO none l) j = rest n st ch B (endO 0 (l ++ [j])) (lastO none (l ++ [j])) := by
  have h2 := ok_step h hj hf
  obtain ⟨h3, h4⟩ := full_no (k := k + 1) (by simp; omega) hk h2
  rw [endO_app] at h3 h4 ⊢
  rw [lastO_app, rest_pay hP hp h3 hj (by rw [or_bit]; simp) h4, ← hx]
  unfold costJ; omega
/-- the first least one so far -/
def Amin (n : Nat) (st : List Int) (ch : Rows2) (B : Pairs) (l : List Nat) (j : Nat) (b m : Int) : Prop :=
  m ≤ far2 ∧ (∀ i, i < j → fol B (endO 0 l) i = true → m ≤ costJ n st ch B l i) ∧ ((b = -1 ∧ m = far2) ∨ ∃ q : Nat, q < j ∧ b = (q : Int) ∧ fol B (endO 0 l) q = true ∧ costJ n st ch B l q = m ∧ ∀ i, i < q → fol B (endO 0 l) i = true → m < costJ n st ch B l i)
theorem Amin.skip {n : Nat} {st : List Int} {ch : Rows2} {B : Pairs} {l : List Nat} {j : Nat} {b m : Int} (h : Amin n st ch B l j b m) (hf : fol B (endO 0 l) j = true → m ≤ costJ n st ch B l j) : Amin n st ch B l (j + 1) b m := by
  obtain ⟨h1, h2, h3⟩ := h
  refine ⟨h1, fun i hi hfi => ?_, ?_⟩
  · by_cases e : i = j
    · subst e; exact hf hfi
    · exact h2 i (by omega) hfi
  · rcases h3 with h3 | ⟨q, q1, q2⟩
    · exact .inl h3
    · exact .inr ⟨q, by omega, q2⟩
theorem Amin.take {n : Nat} {st : List Int} {ch : Rows2} {B : Pairs} {l : List Nat} {j : Nat} {b m : Int} (h : Amin n st ch B l j b m) (hf : fol B (endO 0 l) j = true) (hc : costJ n st ch B l j < m) : Amin n st ch B l (j + 1) (j : Int) (costJ n st ch B l j) := by
  obtain ⟨h1, h2, h3⟩ := h
  refine ⟨by omega, fun i hi hfi => ?_, .inr ⟨j, by omega, rfl, hf, rfl, fun i hi hfi => ?_⟩⟩
  · by_cases e : i = j
    · subst e; exact Int.le_refl _
    · have := h2 i (by omega) hfi; omega
  · have := h2 i hi hfi; omega
theorem Amin.pick {n : Nat} {st : List Int} {ch : Rows2} {B : Pairs} {l : List Nat} {k : Nat} {b m : Int} (hP : PlanOk n st ch) (hp : possible B n = true) (hl : l.length = k) (hk : k < n) (hok : okO n B 0 l = true) (h : Amin n st ch B l n b m) :
    ∃ q : Nat, q < n ∧ b = (q : Int) ∧ fol B (endO 0 l) q = true ∧ pick n st ch B (endO 0 l) (lastO none l) = some q := by
  have hfar : far2 = 1099511627776 := rfl
  obtain ⟨hs, hne⟩ := full_no hl hk hok
  obtain ⟨j0, hp0, hj0, hf0, he0, hb0⟩ := pick_ex hP hp hs (last_lt hok) hne
  obtain ⟨h1, h2, h3⟩ := h
  have h4 := h2 j0 hj0 hf0
  unfold costJ at h4
  rcases h3 with ⟨_, h3⟩ | ⟨q, q1, q2, q3, q4, q5⟩
  · omega
  · have hle : rest n st ch B (endO 0 l) (lastO none l) ≤ costJ n st ch B l q := (bestJ_le (be := B) (f := fun j => after1 st ch (lastO none l) j + pay n ch B (endO 0 l ||| 2 ^ j) j) (s := endO 0 l) (List.range n) (2 * far2)).2 q (List.mem_range.2 q1) q3
    refine ⟨q, q1, q2, q3, pick_here q1 (fun i hi => ?_) (by rw [pk, q3, decide_eq_true (by omega)]; rfl)⟩
    cases hfi : fol B (endO 0 l) i with
    | false => rw [pk, hfi]; rfl
    | true => rw [pk, hfi, decide_eq_false (by have := q5 i hi hfi; omega)]; rfl


theorem pk_no {n : Nat} {st : List Int} {ch : Rows2} {B : Pairs} {l : List Nat} {i : Nat} (h : fol B (endO 0 l) i = false ∨ ¬ costJ n st ch B l i = rest n st ch B (endO 0 l) (lastO none l)) : pk n st ch B l i = false := by
  rcases h with h | h
  · rw [pk, h]; rfl
  · rw [pk, decide_eq_false h, Bool.and_false]
theorem pick_none {n : Nat} {st : List Int} {ch : Rows2} {B : Pairs} {l : List Nat} {q : Nat} (h : ∀ i, i < n → pk n st ch B l i = false) : pick n st ch B (endO 0 l) (lastO none l) ≠ some q := by
  intro hp
  have h1 := List.mem_range.1 (List.mem_of_find?_eq_some hp)
  have h2 := List.find?_some hp
  have h3 := h q h1
  unfold pk costJ at h3
  rw [h2] at h3; simp at h3
theorem of_e {w0 w : World} {Xs : List Ent} (h : St w0 Xs w) : St w0 (.e :: Xs) w :=
  ⟨h.base, h.nodup, h.ge, fun x hx => by
    rcases List.mem_cons.1 hx with rfl | hx
    · trivial
    · exact h.has _ hx⟩

theorem Best_spec (w : World) (A1 A2 A3 : Option Addr) (c1 c2 c3 : Nat) (vs : List Value) (st : List Int) (ch : Rows2) (be : List (Int × Int)) (hl1 : st.length ≤ 140737488351232) (hl2 : ch.length ≤ 140737488351232) (hl3 : be.length ≤ 140737488351232) (hp : PR w A1 A2 A3 vs st ch be) (hlr : ∀ r ∈ ch, r.length ≤ 140737488351232) : Calls Tryd.prog 31 #[.agg #[.slice A1 st.length c1, .slice A2 ch.length c2, .slice A3 be.length c3]] w fun e w' => ∃ A c D, e = .returned (.tuple #[.slice A (bestR st ch be).1.length c, .int .i64 (bestR st ch be).2]) ∧ St w D w' ∧ Rds D A (I (bestR st ch be).1) := by
  refine calls (args := [.agg #[.slice A1 st.length c1, .slice A2 ch.length c2, .slice A3 be.length c3]]) Tryd.func31 rfl Tryd.ntmps31 (Nat.le_of_ble_eq_true rfl) (St.refl w) ?_
  refine J_seq ?_
  refine J_region ?_
  refine V_box (.n _) rfl rfl rfl (fun _ => trivial) (fun b1 => ?_)   -- 0.0
  refine V_asg (.n _) rfl rfl ?_   -- 0.1
  refine V_asg (.n _) rfl rfl ?_   -- 0.2
  refine V_sub [(0, _), (1, _), (2, _), (3, _)] ⟨rfl, rfl, rfl, rfl, trivial⟩ ?_
  refine V_nil (.inl rfl) ?_
  refine E_then ?_
  refine J_seq ?_
  refine J_block ?_
  refine J_seq ?_
  refine J_region ?_
  refine V_ldN (.n _) Tryd.isAgg51 Tryd.sizeOf51 rfl (by repeat (first | exact List.Mem.head _ | assumption | apply List.Mem.tail | apply List.mem_append_right)) (by rfl) rfl rfl ?_   -- 1.0
  refine V_call0 (.n _) Tryd.call73 (.cons rfl .nil) (fun w1 hw1 => validP_spec w1 A1 A2 A3 c1 c2 c3 vs st ch be hl1 hl2 hl3 (hp.keep hw1) hlr) rfl trivial ?_   -- 1.1
  refine V_notB (.n _) rfl rfl ?_   -- 1.2
  refine V_asg (.n _) rfl rfl ?_   -- 1.3
  refine V_sub [(0, _), (1, _), (2, _), (3, _), (12, _)] ⟨rfl, rfl, rfl, rfl, rfl, trivial⟩ ?_
  refine V_nil (.inl rfl) ?_
  refine E_then ?_
  refine J_condB rfl (fun h1 => ?_) (fun h1 => ?_)   -- C0
  · skip
    refine J_seq ?_
    refine J_region ?_
    refine V_asg (.n _) rfl rfl ?_   -- 2.0
    refine V_asg (.n _) rfl rfl ?_   -- 2.1
    refine V_sub [(0, _), (1, _), (2, _), (3, _), (12, _)] ⟨rfl, rfl, rfl, rfl, rfl, trivial⟩ ?_
    refine V_nil (.inl rfl) ?_
    refine E_then ?_
    refine J_ret ?_
    refine E_blk_ret ?_
    refine E_then_ret ?_
    -- return R0
    refine E_ret2 Tryd.results31 rfl rfl (fun w hw => ?_)
    exact ⟨none, 0, [], by rw [bestR_no (by assumption)]; rfl, hw.sub (fun x hx => by simp at hx) (by simp [keys]), by rw [bestR_no (by assumption)]; exact Rds.nil⟩
  · have hv := validP_iff.1 (show validP st ch be = true by simpa using h1)
    have hn10 := hv.n10
    have hn01 := hv.n1
    have hp1 := pow1024 hn10
    have hN := n2n hn10
    have hp0 := Nat.pow_pos (n := st.length) (show 0 < 2 by decide)
    have hchl := hv.chl
    have hfar : far2 = 1099511627776 := rfl
    refine J_seq ?_
    refine J_region ?_
    refine V_ldN (.n _) Tryd.isAgg51 Tryd.sizeOf51 rfl (by repeat (first | exact List.Mem.head _ | assumption | apply List.Mem.tail | apply List.mem_append_right)) (by rfl) rfl rfl ?_   -- 3.0
    refine V_call0 (.n _) Tryd.call74 (.cons rfl .nil) (fun w1 hw1 => possible_spec w1 A1 A2 A3 c1 c2 c3 vs st ch be hl1 hl2 hl3 (hp.keep hw1) hv) rfl trivial ?_   -- 3.1
    refine V_notB (.n _) rfl rfl ?_   -- 3.2
    refine V_asg (.n _) rfl rfl ?_   -- 3.3
    refine V_sub [(0, _), (1, _), (2, _), (3, _), (12, _), (16, _)] ⟨rfl, rfl, rfl, rfl, rfl, rfl, trivial⟩ ?_
    refine V_nil (.inl rfl) ?_
    refine E_then ?_
    refine J_condB rfl (fun h2 => ?_) (fun h2 => ?_)   -- C1
    · have hpn : possible (natB be) st.length = false := by simpa using h2
      refine J_seq ?_
      refine J_region ?_
      refine V_asg (.n _) rfl rfl ?_   -- 4.0
      refine V_asg (.n _) rfl rfl ?_   -- 4.1
      refine V_sub [(0, _), (1, _), (2, _), (3, _), (12, _), (16, _)] ⟨rfl, rfl, rfl, rfl, rfl, rfl, trivial⟩ ?_
      refine V_nil (.inl rfl) ?_
      refine E_then ?_
      refine J_ret ?_
      refine E_blk_ret ?_
      refine E_then_ret ?_
      -- return R1
      refine E_ret2 Tryd.results31 rfl rfl (fun w hw => ?_)
      exact ⟨none, 0, [], by rw [bestR_none hv hpn]; rfl, hw.sub (fun x hx => by simp at hx) (by simp [keys]), by rw [bestR_none hv hpn]; exact Rds.nil⟩
    · have hpo : possible (natB be) st.length = true := by simpa using h2
      have hpl : (priceT st.length ch (natB be)).length = st.length * 2 ^ st.length := mkT_length _ _
      refine J_skip ?_
      refine E_blk ?_
      refine E_then ?_
      refine J_seq ?_
      refine J_draw (Gs := _) (cl := [.p, .r, .p, .r, (.u fun v D => ∃ b, v = .slice (some ⟨b, 0, none⟩) st.length st.length ∧ D = [.c b 3 (I (needT st.length (natB be)))]), .r, (.u fun v D => ∃ b, v = .slice (some ⟨b, 0, none⟩) (st.length * 2 ^ st.length) (st.length * 2 ^ st.length) ∧ D = [.c b 3 (I (priceT st.length ch (natB be)))]), .p, .p, .p]) (by kernel_rfl) (fun _ _ h => h) ?_
      first | refine V_fa0 (.s _ _ _) fo51_0 rfl rfl ?_ | refine V_faz (.s _ _ _) fo51_0 rfl rfl ?_ | refine V_fa (.s _ _ _) fo51_0 rfl rfl ?_   -- 5.0
      refine V_ld (.s _ _ _) Tryd.isAgg34 rfl (by repeat (first | exact List.Mem.head _ | assumption | apply List.Mem.tail | apply List.mem_append_right)) (by rfl) rfl ?_   -- 5.1
      refine V_len (.s _ _ _) Tryd.underlying34 rfl rfl ?_   -- 5.2
      refine V_ldN (.s _ _ _) Tryd.isAgg51 Tryd.sizeOf51 rfl (by repeat (first | exact List.Mem.head _ | assumption | apply List.Mem.tail | apply List.mem_append_right)) (by rfl) rfl rfl ?_   -- 5.3
      refine V_callU (.s _ _ _) Tryd.call75 (.cons rfl .nil) (fun w1 hw1 => needs_spec w1 A1 A2 A3 c1 c2 c3 vs st ch be hl1 hl2 hl3 (hp.keep hw1) hv) rfl (fun _ _ h => h.sublist (by simp)) ?_
      rintro _ _ ⟨bN, rfl, rfl⟩
      refine V_ldN (.s _ _ _) Tryd.isAgg51 Tryd.sizeOf51 rfl (by repeat (first | exact List.Mem.head _ | assumption | apply List.Mem.tail | apply List.mem_append_right)) (by rfl) rfl rfl ?_   -- 5.5
      refine V_callU (.s _ _ _) Tryd.call76 (.cons rfl .nil) (fun w1 hw1 => prices_spec w1 A1 A2 A3 c1 c2 c3 vs st ch be hl1 hl2 hl3 (hp.keep hw1) hv) rfl (fun _ _ h => h.sublist (by simp)) ?_
      rintro _ _ ⟨bT, rfl, rfl⟩
      refine V_asg (.s _ _ _) rfl rfl ?_   -- 5.7
      refine V_asg (.s _ _ _) rfl rfl ?_   -- 5.8
      refine V_asg (.s _ _ _) rfl rfl ?_   -- 5.9
      refine V_sub [(0, _), (1, _), (2, _), (3, _), (4, _), (5, _), (6, _), (12, _), (16, _)] ⟨rfl, rfl, rfl, rfl, rfl, rfl, rfl, rfl, rfl, trivial⟩ ?_
      refine V_nil (.inr ⟨_, rfl⟩) ?_
      refine E_then ?_
      refine J_seq ?_
      refine J_region ?_
      refine V_ldN (.n _) Tryd.isAgg51 Tryd.sizeOf51 rfl (by repeat (first | exact List.Mem.head _ | assumption | apply List.Mem.tail | apply List.mem_append_right)) (by rfl) rfl rfl ?_   -- 6.0
      refine V_mov (.n _) rfl rfl ?_   -- 6.1
      refine V_call0 (v := .int .i64 (rest st.length st ch (natB be) 0 none)) (.n _) Tryd.call77 (.cons rfl (.cons rfl .nil)) (fun w1 hw1 => by
      have h := least_spec w1 A1 A2 A3 c1 c2 c3 vs st ch be hl1 hl2 hl3 (hp.keep hw1) hv (some ⟨bT, 0, none⟩) (st.length * 2 ^ st.length) (priceT st.length ch (natB be)) (Rd.own hw1 (t := 3) (by repeat (first | exact List.Mem.head _ | assumption | apply List.Mem.tail | apply List.mem_append_right))) hpl (price_bd hv.ok.change)
      rw [least_price, hpl] at h
      exact h) rfl trivial ?_
      refine V_asg (.n _) rfl rfl ?_   -- 6.3
      refine V_asg (.n _) rfl rfl ?_   -- 6.4
      refine V_sub [(0, _), (1, _), (2, _), (3, _), (4, _), (5, _), (6, _), (7, _), (8, _), (12, _), (16, _)] ⟨rfl, rfl, rfl, rfl, rfl, rfl, rfl, rfl, rfl, rfl, rfl, trivial⟩ ?_
      refine V_nil (.inl rfl) ?_
      refine E_then ?_
      refine J_seq ?_
      refine J_region ?_
      refine V_asg (.n _) rfl rfl ?_   -- 7.0
      refine V_sub [(0, _), (1, _), (2, _), (3, _), (4, _), (5, _), (6, _), (7, _), (8, _), (9, _), (12, _), (16, _)] ⟨rfl, rfl, rfl, rfl, rfl, rfl, rfl, rfl, rfl, rfl, rfl, rfl, trivial⟩ ?_
      refine V_nil (.inl rfl) ?_
      refine E_then ?_
      refine J_seq ?_
      refine J_seq ?_
      refine J_region ?_
      refine V_mov (.n _) rfl rfl ?_   -- 8.0
      refine V_mov (.n _) rfl rfl ?_   -- 8.1
      refine V_sub [(0, _), (1, _), (2, _), (3, _), (4, _), (5, _), (6, _), (7, _), (8, _), (9, _), (12, _), (16, _), (30, _), (31, _)] ⟨rfl, rfl, rfl, rfl, rfl, rfl, rfl, rfl, rfl, rfl, rfl, rfl, rfl, rfl, trivial⟩ ?_
      refine V_nil (.inl rfl) ?_
      refine E_then ?_
      refine J_block ?_
      -- loop L0
      refine J_loop (X := Nat × List Nat × Value × Ent × Int) (fun x => [(0, (.agg #[.slice A1 st.length c1, .slice A2 ch.length c2, .slice A3 be.length c3])), (1, (.pointer (some ⟨b1, 0, none⟩))), (2, (.slice none 0 0)), (3, (.int .i64 (0))), (4, (.int .i64 (st.length : Nat))), (5, (.slice (some ⟨bN, 0, none⟩) st.length st.length)), (6, (.slice (some ⟨bT, 0, none⟩) (st.length * 2 ^ st.length) (st.length * 2 ^ st.length))), (7, .int .i64 x.2.2.2.2), (8, .int .i64 ((endO 0 x.2.1 : Nat) : Int)), (9, x.2.2.1), (30, (.int .i64 (st.length : Nat))), (31, .int .i64 (x.1 : Nat))]) (fun x => x.2.2.2.1 :: [.c bT 3 (I (priceT st.length ch (natB be))), .c bN 3 (I (needT st.length (natB be))), .c b1 51 [.slice A1 st.length c1, .slice A2 ch.length c2, .slice A3 be.length c3]]) (fun x => x.1 ≤ st.length ∧ x.2.1.length = x.1 ∧ okO st.length (natB be) 0 x.2.1 = true ∧ Own 3 1 x.2.2.1 x.1 (I (x.2.1.map Int.ofNat)) x.2.2.2.1 ∧ x.2.1 ++ bestO st.length st ch (natB be) (st.length - x.1) (endO 0 x.2.1) (lastO none x.2.1) = bestO st.length st ch (natB be) st.length 0 none ∧ (x.1 < st.length → x.2.2.2.2 = rest st.length st ch (natB be) (endO 0 x.2.1) (lastO none x.2.1))) (fun x => st.length - x.1) (0, [], .slice none 0 0, .e, rest st.length st ch (natB be) 0 none) (by refine ⟨?_, ?_, ?_, ?_, ?_, ?_, ?_, ?_, ?_, ?_, ?_, ?_, trivial⟩ <;> first | rfl | exact int_eq (by omega)) (fun w h => of_e h) ?_ ?_
      · exact ⟨Nat.zero_le _, rfl, rfl, Own.nil _ _ _, rfl, fun _ => rfl⟩
      · rintro ⟨k, l, v, X, left⟩ ⟨hk, hlk, hok, hown, hpath, hleft⟩
        dsimp only at hk hlk hok hown hpath hleft ⊢
        obtain ⟨Ao, co, rfl, _⟩ := hown.is
        refine J_seq ?_
        refine J_region ?_
        refine V_lss (.n _) rfl rfl rfl ?_   -- 9.0
        refine V_sub [(0, _), (1, _), (2, _), (3, _), (4, _), (5, _), (6, _), (7, _), (8, _), (9, _), (30, _), (31, _), (32, _)] ⟨rfl, rfl, rfl, rfl, rfl, rfl, rfl, rfl, rfl, rfl, rfl, rfl, rfl, trivial⟩ ?_
        refine V_nil (.inl rfl) ?_
        refine E_then ?_
        refine J_seq ?_
        refine J_cond rfl (fun h3 => ?_) (fun h3 => ?_)   -- C2
        · skip
          refine J_skip ?_
          refine E_then ?_
          refine J_seq ?_
          refine J_block ?_
          refine J_seq ?_
          refine J_region ?_
          refine V_mov (.n _) rfl rfl ?_   -- 10.0
          refine V_mov (.n _) rfl rfl ?_   -- 10.1
          refine V_sub [(0, _), (1, _), (2, _), (3, _), (4, _), (5, _), (6, _), (7, _), (8, _), (9, _), (30, _), (31, _), (32, _), (33, _), (34, _)] ⟨rfl, rfl, rfl, rfl, rfl, rfl, rfl, rfl, rfl, rfl, rfl, rfl, rfl, rfl, rfl, trivial⟩ ?_
          refine V_nil (.inl rfl) ?_
          refine E_then ?_
          refine J_block ?_
          -- loop L1
          have hkn : k < st.length := by omega
          obtain ⟨hsl, hsn⟩ := full_no hlk hkn hok
          obtain ⟨j0, hp0, hj0, hf0, he0, hrs⟩ := pick_ex hv.ok hpo hsl (last_lt hok) hsn
          refine J_loop (X := Nat) (fun j => [(0, (.agg #[.slice A1 st.length c1, .slice A2 ch.length c2, .slice A3 be.length c3])), (1, (.pointer (some ⟨b1, 0, none⟩))), (2, (.slice none 0 0)), (3, (.int .i64 (0))), (4, (.int .i64 (st.length : Nat))), (5, (.slice (some ⟨bN, 0, none⟩) st.length st.length)), (6, (.slice (some ⟨bT, 0, none⟩) (st.length * 2 ^ st.length) (st.length * 2 ^ st.length))), (7, .int .i64 left), (8, .int .i64 (((endO 0 l) : Nat) : Int)), (9, (.slice Ao k co)), (30, (.int .i64 (st.length : Nat))), (31, .int .i64 (k : Nat)), (33, (.int .i64 (st.length : Nat))), (34, .int .i64 (j : Nat))]) (fun j => X :: [.c bT 3 (I (priceT st.length ch (natB be))), .c bN 3 (I (needT st.length (natB be))), .c b1 51 [.slice A1 st.length c1, .slice A2 ch.length c2, .slice A3 be.length c3]]) (fun j => j ≤ st.length ∧ ∀ i, i < j → pk st.length st ch (natB be) l i = false) (fun j => st.length - j) (0) (by refine ⟨?_, ?_, ?_, ?_, ?_, ?_, ?_, ?_, ?_, ?_, ?_, ?_, ?_, ?_, trivial⟩ <;> first | rfl | exact int_eq (by omega)) (fun w h => h) ?_ ?_
          · exact ⟨Nat.zero_le _, fun i hi => by omega⟩
          · rintro j ⟨hj, hno⟩
            refine J_seq ?_
            refine J_region ?_
            refine V_lss (.n _) rfl rfl rfl ?_   -- 11.0
            refine V_sub [(0, _), (1, _), (2, _), (3, _), (4, _), (5, _), (6, _), (7, _), (8, _), (9, _), (30, _), (31, _), (33, _), (34, _), (35, _)] ⟨rfl, rfl, rfl, rfl, rfl, rfl, rfl, rfl, rfl, rfl, rfl, rfl, rfl, rfl, rfl, trivial⟩ ?_
            refine V_nil (.inl rfl) ?_
            refine E_then ?_
            refine J_seq ?_
            refine J_cond rfl (fun h4 => ?_) (fun h4 => ?_)   -- C3
            · skip
              refine J_skip ?_
              refine E_then ?_
              refine J_seq ?_
              refine J_block ?_
              refine J_seq ?_
              refine J_region ?_
              refine V_mov (.n _) rfl rfl ?_   -- 12.0
              refine V_asg (.n _) rfl rfl ?_   -- 12.1
              refine V_sub [(0, _), (1, _), (2, _), (3, _), (4, _), (5, _), (6, _), (7, _), (8, _), (9, _), (10, _), (30, _), (31, _), (33, _), (34, _), (35, _)] ⟨rfl, rfl, rfl, rfl, rfl, rfl, rfl, rfl, rfl, rfl, rfl, rfl, rfl, rfl, rfl, rfl, trivial⟩ ?_
              refine V_nil (.inl rfl) ?_
              refine E_then ?_
              refine J_seq ?_
              refine J_seq ?_
              refine J_region ?_
              refine V_mov (.n _) rfl rfl ?_   -- 13.0
              refine V_mov (.n _) rfl rfl ?_   -- 13.1
              refine V_mov (.n _) rfl rfl ?_   -- 13.2
              refine V_call0 (.n _) Tryd.call78 (.cons rfl (.cons rfl (.cons rfl .nil))) (fun w1 hw1 => follows_spec w1 (some ⟨bN, 0, none⟩) st.length st.length (endO 0 l) j (natB be) hn10 hsl (by omega) (hv.needF j) (Rd.own hw1 (t := 3) (by repeat (first | exact List.Mem.head _ | assumption | apply List.Mem.tail | apply List.mem_append_right)))) rfl trivial ?_   -- 13.3
              refine V_notB (.n _) rfl rfl ?_   -- 13.4
              refine V_sub [(0, _), (1, _), (2, _), (3, _), (4, _), (5, _), (6, _), (7, _), (8, _), (9, _), (10, _), (30, _), (31, _), (33, _), (34, _), (35, _), (41, _)] ⟨rfl, rfl, rfl, rfl, rfl, rfl, rfl, rfl, rfl, rfl, rfl, rfl, rfl, rfl, rfl, rfl, rfl, trivial⟩ ?_
              refine V_nil (.inl rfl) ?_
              refine E_then ?_
              refine J_condB rfl (fun h5 => ?_) (fun h5 => ?_)   -- C4
              · skip
                refine J_exit ?_
                refine E_then_exit ?_
                refine E_blk_hit ?_
                refine E_then ?_
                refine J_region ?_
                refine V_add (.n _) rfl rfl (wrap_ok (by omega)) rfl ?_   -- 21.0
                refine V_mov (.n _) rfl rfl ?_   -- 21.1
                refine V_sub [(0, _), (1, _), (2, _), (3, _), (4, _), (5, _), (6, _), (7, _), (8, _), (9, _), (10, _), (30, _), (31, _), (33, _), (34, _), (35, _), (41, _)] ⟨rfl, rfl, rfl, rfl, rfl, rfl, rfl, rfl, rfl, rfl, rfl, rfl, rfl, rfl, rfl, rfl, rfl, trivial⟩ ?_
                refine V_nil (.inl rfl) ?_
                -- again L1 0
                refine E_again (j + 1) ?_ ?_ ?_ (fun w h => h)
                · omega
                · refine ⟨by omega, fun i hi => ?_⟩
                  by_cases e : i = j
                  · subst e
                    exact pk_no (by first | exact .inl (by simpa using ‹(!fol _ _ _) = true›) | exact .inr (by unfold costJ; rw [← hleft hkn]; assumption))
                  · exact hno i (by omega)
                · refine ⟨?_, ?_, ?_, ?_, ?_, ?_, ?_, ?_, ?_, ?_, ?_, ?_, ?_, ?_, trivial⟩ <;> first | rfl | exact int_eq (by omega) | exact int_eq (by dsimp only; omega)
              · have hfo : fol (natB be) (endO 0 l) j = true := by simpa using h5
                refine J_skip ?_
                refine E_then ?_
                refine J_seq ?_
                refine J_region ?_
                first | refine V_fa0 (.n _) fo51_0 rfl rfl ?_ | refine V_faz (.n _) fo51_0 rfl rfl ?_ | refine V_fa (.n _) fo51_0 rfl rfl ?_   -- 14.0
                refine V_ld (.n _) Tryd.isAgg34 rfl (by repeat (first | exact List.Mem.head _ | assumption | apply List.Mem.tail | apply List.mem_append_right)) (by rfl) rfl ?_   -- 14.1
                refine V_mov (.n _) rfl rfl ?_   -- 14.2
                first | refine V_ix (.n _) Tryd.underlying34 Tryd.sizeOf3 rfl rfl (by omega) (by omega) rfl ?_ | refine V_ixz (.n _) Tryd.underlying34 Tryd.sizeOf3 rfl rfl (hp.h2.rd.pl (by rw [hp.h2.len]; omega)) (by omega) (by omega) rfl ?_ | refine V_ixz (.n _) Tryd.underlying34 Tryd.sizeOf3 rfl rfl (hrr.pl (by simp)) (by omega) (by omega) rfl ?_ | refine V_ixz (.n _) Tryd.underlying34 Tryd.sizeOf3 rfl rfl (hp.h1.pl (by simp)) (by omega) (by omega) rfl ?_ | refine V_ixz (.n _) Tryd.underlying34 Tryd.sizeOf3 rfl rfl (own_pl hown) (by omega) (by omega) rfl ?_   -- 14.3
                refine V_ldz (.n _) Tryd.isAgg3 rfl hp.h1 (I_getN (i := j) (by omega)) rfl ?_   -- 14.4
                refine V_asg (.n _) rfl rfl ?_   -- 14.5
                refine V_sub [(0, _), (1, _), (2, _), (3, _), (4, _), (5, _), (6, _), (7, _), (8, _), (9, _), (10, _), (11, _), (30, _), (31, _), (33, _), (34, _), (35, _), (41, _)] ⟨rfl, rfl, rfl, rfl, rfl, rfl, rfl, rfl, rfl, rfl, rfl, rfl, rfl, rfl, rfl, rfl, rfl, rfl, trivial⟩ ?_
                refine V_nil (.inl rfl) ?_
                refine E_then ?_
                refine J_seq ?_
                refine J_seq ?_
                refine J_region ?_
                refine V_mov (.n _) rfl rfl ?_   -- 15.0
                refine V_len (.n _) Tryd.underlying34 rfl rfl ?_   -- 15.1
                refine V_gtr (.n _) rfl rfl rfl ?_   -- 15.2
                refine V_sub [(0, _), (1, _), (2, _), (3, _), (4, _), (5, _), (6, _), (7, _), (8, _), (9, _), (10, _), (11, _), (30, _), (31, _), (33, _), (34, _), (35, _), (41, _), (49, _)] ⟨rfl, rfl, rfl, rfl, rfl, rfl, rfl, rfl, rfl, rfl, rfl, rfl, rfl, rfl, rfl, rfl, rfl, rfl, rfl, trivial⟩ ?_
                refine V_nil (.inl rfl) ?_
                refine E_then ?_
                -- join C5
                refine J_cut (X := Unit) (fun _ => [(0, (.agg #[.slice A1 st.length c1, .slice A2 ch.length c2, .slice A3 be.length c3])), (1, (.pointer (some ⟨b1, 0, none⟩))), (2, (.slice none 0 0)), (3, (.int .i64 (0))), (4, (.int .i64 (st.length : Nat))), (5, (.slice (some ⟨bN, 0, none⟩) st.length st.length)), (6, (.slice (some ⟨bT, 0, none⟩) (st.length * 2 ^ st.length) (st.length * 2 ^ st.length))), (7, .int .i64 left), (8, .int .i64 (((endO 0 l) : Nat) : Int)), (9, (.slice Ao k co)), (10, .int .i64 (j : Nat)), (11, .int .i64 (after1 st ch (lastO none l) j)), (30, (.int .i64 (st.length : Nat))), (31, .int .i64 (k : Nat)), (33, (.int .i64 (st.length : Nat))), (34, .int .i64 (j : Nat))]) (fun _ => X :: [.c bT 3 (I (priceT st.length ch (natB be))), .c bN 3 (I (needT st.length (natB be))), .c b1 51 [.slice A1 st.length c1, .slice A2 ch.length c2, .slice A3 be.length c3]]) (fun _ => True) ?_ ?_
                · skip
                  refine J_cond rfl (fun h6 => ?_) (fun h6 => ?_)   -- C5
                  · skip
                    refine J_draw (Gs := _) (cl := [.p, .r, .p, .p, .p, .p, .p, .r, .p, .r, .p, .p, .r, .p]) (by kernel_rfl) (fun _ _ h => h) ?_
                    first | refine V_fa0 (.s _ _ _) fo51_1 rfl rfl ?_ | refine V_faz (.s _ _ _) fo51_1 rfl rfl ?_ | refine V_fa (.s _ _ _) fo51_1 rfl rfl ?_   -- 16.0
                    refine V_ld (.s _ _ _) Tryd.isAgg45 rfl (by repeat (first | exact List.Mem.head _ | assumption | apply List.Mem.tail | apply List.mem_append_right)) (by rfl) rfl ?_   -- 16.1
                    refine V_mov (.s _ _ _) rfl rfl ?_   -- 16.2
                    refine V_mov (.s _ _ _) rfl rfl ?_   -- 16.3
                    refine V_len (.s _ _ _) Tryd.underlying34 rfl rfl ?_   -- 16.4
                    obtain ⟨q, rfl⟩ : ∃ q, k = q + 1 := ⟨k - 1, by omega⟩
                    have hlast := lastO_get (o := none) hlk
                    have hli : l.getD q 0 < st.length := okO_lt _ _ hok _ (getD_mem (by omega))
                    generalize hiq : l.getD q 0 = i at *
                    refine V_sub1 (.s _ _ _) rfl rfl (wrap_ok (by omega)) rfl ?_   -- 16.5
                    rw [show (((q + 1 : Nat) : Int) - 1) = (q : Int) by omega]
                    first | refine V_ix (.s _ _ _) Tryd.underlying34 Tryd.sizeOf3 rfl rfl (by omega) (by omega) rfl ?_ | refine V_ixz (.s _ _ _) Tryd.underlying34 Tryd.sizeOf3 rfl rfl (hp.h2.rd.pl (by rw [hp.h2.len]; omega)) (by omega) (by omega) rfl ?_ | refine V_ixz (.s _ _ _) Tryd.underlying34 Tryd.sizeOf3 rfl rfl (hrr.pl (by simp)) (by omega) (by omega) rfl ?_ | refine V_ixz (.s _ _ _) Tryd.underlying34 Tryd.sizeOf3 rfl rfl (hp.h1.pl (by simp)) (by omega) (by omega) rfl ?_ | refine V_ixz (.s _ _ _) Tryd.underlying34 Tryd.sizeOf3 rfl rfl (own_pl hown) (by omega) (by omega) rfl ?_   -- 16.6
                    refine V_ldo (.s _ _ _) Tryd.isAgg3 rfl (fun w1 hw1 => hown.rd (hw1.has _ (List.Mem.head _))) (I_getN (i := q) (by rw [List.length_map]; omega)) rfl ?_   -- 16.7
                    rw [ofN_get, hiq]
                    first | refine V_ix (.s _ _ _) Tryd.underlying45 Tryd.sizeOf34 rfl rfl (by omega) (by omega) rfl ?_ | refine V_ixz (.s _ _ _) Tryd.underlying45 Tryd.sizeOf34 rfl rfl (hp.h2.rd.pl (by rw [hp.h2.len]; omega)) (by omega) (by omega) rfl ?_ | refine V_ixz (.s _ _ _) Tryd.underlying45 Tryd.sizeOf34 rfl rfl (hrr.pl (by simp)) (by omega) (by omega) rfl ?_ | refine V_ixz (.s _ _ _) Tryd.underlying45 Tryd.sizeOf34 rfl rfl (hp.h1.pl (by simp)) (by omega) (by omega) rfl ?_ | refine V_ixz (.s _ _ _) Tryd.underlying45 Tryd.sizeOf34 rfl rfl (own_pl hown) (by omega) (by omega) rfl ?_   -- 16.8
                    obtain ⟨Ai, ci, hrow, hrr⟩ := hp.h2.get (i := i) (by omega)
                    have hrl := (hv.row (i := i) (by omega)).1
                    refine V_ldz (.s _ _ _) Tryd.isAgg34 rfl hp.h2.rd hrow rfl ?_   -- 16.9
                    refine V_mov (.s _ _ _) rfl rfl ?_   -- 16.10
                    first | refine V_ix (.s _ _ _) Tryd.underlying34 Tryd.sizeOf3 rfl rfl (by omega) (by omega) rfl ?_ | refine V_ixz (.s _ _ _) Tryd.underlying34 Tryd.sizeOf3 rfl rfl (hp.h2.rd.pl (by rw [hp.h2.len]; omega)) (by omega) (by omega) rfl ?_ | refine V_ixz (.s _ _ _) Tryd.underlying34 Tryd.sizeOf3 rfl rfl (hrr.pl (by simp)) (by omega) (by omega) rfl ?_ | refine V_ixz (.s _ _ _) Tryd.underlying34 Tryd.sizeOf3 rfl rfl (hp.h1.pl (by simp)) (by omega) (by omega) rfl ?_ | refine V_ixz (.s _ _ _) Tryd.underlying34 Tryd.sizeOf3 rfl rfl (own_pl hown) (by omega) (by omega) rfl ?_   -- 16.11
                    refine V_ldz (.s _ _ _) Tryd.isAgg3 rfl hrr (I_getN (i := j) (by omega)) rfl ?_   -- 16.12
                    rw [show (ch.getD i []).getD j 0 = cst ch i j from rfl]
                    have hcb := hv.ok.change i j (by omega) (by omega)
                    refine V_asg (.s _ _ _) rfl rfl ?_   -- 16.13
                    refine V_sub [(0, _), (1, _), (2, _), (3, _), (4, _), (5, _), (6, _), (7, _), (8, _), (9, _), (10, _), (11, _), (30, _), (31, _), (33, _), (34, _), (35, _), (41, _), (49, _)] ⟨rfl, rfl, rfl, rfl, rfl, rfl, rfl, rfl, rfl, rfl, rfl, rfl, rfl, rfl, rfl, rfl, rfl, rfl, rfl, trivial⟩ ?_
                    refine V_nil (.inr ⟨_, rfl⟩) ?_
                    -- again C5 0
                    refine E_meet (()) ?_ ?_ (fun w h => h)
                    · trivial
                    · refine ⟨?_, ?_, ?_, ?_, ?_, ?_, ?_, ?_, ?_, ?_, ?_, ?_, ?_, ?_, ?_, ?_, trivial⟩ <;> first | rfl | exact int_eq (by rw [hlast]; rfl) | exact int_eq (by omega)
                  · skip
                    refine J_skip ?_
                    -- again C5 1
                    have hk00 : k = 0 := by omega
                    subst hk00
                    obtain rfl : l = [] := List.length_eq_zero_iff.1 hlk
                    refine E_meet (()) ?_ ?_ (fun w h => h)
                    · trivial
                    · refine ⟨?_, ?_, ?_, ?_, ?_, ?_, ?_, ?_, ?_, ?_, ?_, ?_, ?_, ?_, ?_, ?_, trivial⟩ <;> first | rfl | exact int_eq (by omega)
                · rintro _ -
                  refine E_then ?_
                  refine J_seq ?_
                  refine J_region ?_
                  refine V_mov (.n _) rfl rfl ?_   -- 17.0
                  refine V_mov (.n _) rfl rfl ?_   -- 17.1
                  refine V_mov (.n _) rfl rfl ?_   -- 17.2
                  refine V_mov (.n _) rfl rfl ?_   -- 17.3
                  refine V_mov (.n _) rfl rfl ?_   -- 17.4
                  have hsj := or_lt hsl (show j < st.length by omega)
                  have hix := ix_lt (n := st.length) (s := (endO 0 l) ||| 2 ^ j) (i := j) (m := 2 ^ st.length) (by omega) hsj
                  have hpb := pay_bd (be := natB be) hv.ok.change (2 ^ st.length - ((endO 0 l) ||| 2 ^ j)) ((endO 0 l) ||| 2 ^ j) j (by omega) (by omega) (by omega)
                  have hab := after1_bd hv.ok (last_lt hok) (show j < st.length by omega)
                  refine V_shl (.n _) rfl rfl (by omega) (by simp [IntKind.bits]; omega) (by rw [shl_nat]; exact wrap_nat (lt63 (Nat.pow_lt_pow_right (by decide) (show j < 10 by omega)) (Nat.le_refl _))) rfl ?_   -- 17.5
                  rw [shl_nat]
                  refine V_or (r := (((endO 0 l) ||| 2 ^ j : Nat) : Int)) (.n _) rfl rfl (bits_or (by omega) (lt63 (Nat.pow_lt_pow_right (by decide) (show j < 10 by omega)) (Nat.le_refl _))) rfl ?_   -- 17.6
                  refine V_mul (.n _) rfl rfl (by rw [mulcast]; exact wrap_nat (by omega)) rfl ?_   -- 17.7
                  rw [mulcast]
                  refine V_mov (.n _) rfl rfl ?_   -- 17.8
                  refine V_add (.n _) rfl rfl (wrap_ok (by omega)) rfl ?_   -- 17.9
                  rw [show ((st.length * ((endO 0 l) ||| 2 ^ j) : Nat) : Int) + (j : Int) = ((st.length * ((endO 0 l) ||| 2 ^ j) + j : Nat) : Int) by omega]
                  first | refine V_ix (.n _) Tryd.underlying34 Tryd.sizeOf3 rfl rfl (by omega) (by omega) rfl ?_ | refine V_ixz (.n _) Tryd.underlying34 Tryd.sizeOf3 rfl rfl (hp.h2.rd.pl (by rw [hp.h2.len]; omega)) (by omega) (by omega) rfl ?_ | refine V_ixz (.n _) Tryd.underlying34 Tryd.sizeOf3 rfl rfl (hrr.pl (by simp)) (by omega) (by omega) rfl ?_ | refine V_ixz (.n _) Tryd.underlying34 Tryd.sizeOf3 rfl rfl (hp.h1.pl (by simp)) (by omega) (by omega) rfl ?_ | refine V_ixz (.n _) Tryd.underlying34 Tryd.sizeOf3 rfl rfl (own_pl hown) (by omega) (by omega) rfl ?_   -- 17.10
                  refine V_ld (.n _) Tryd.isAgg3 rfl (by repeat (first | exact List.Mem.head _ | assumption | apply List.Mem.tail | apply List.mem_append_right)) (I_getN (xs := priceT st.length ch (natB be)) (i := st.length * ((endO 0 l) ||| 2 ^ j) + j) (by omega)) rfl ?_   -- 17.11
                  rw [price_get (by omega) hsj]
                  refine V_add (.n _) rfl rfl (wrap_ok (by omega)) rfl ?_   -- 17.12
                  refine V_mov (.n _) rfl rfl ?_   -- 17.13
                  refine V_eql (.n _) rfl rfl rfl ?_   -- 17.14
                  refine V_sub [(0, _), (1, _), (2, _), (3, _), (4, _), (5, _), (6, _), (7, _), (8, _), (9, _), (10, _), (11, _), (30, _), (31, _), (33, _), (34, _), (77, _)] ⟨rfl, rfl, rfl, rfl, rfl, rfl, rfl, rfl, rfl, rfl, rfl, rfl, rfl, rfl, rfl, rfl, rfl, trivial⟩ ?_
                  refine V_nil (.inl rfl) ?_
                  refine E_then ?_
                  refine J_cond rfl (fun h7 => ?_) (fun h7 => ?_)   -- C6
                  · skip
                    refine J_seq ?_
                    refine J_region ?_
                    refine V_mov (.n _) rfl rfl ?_   -- 18.0
                    refine V_mov (.n _) rfl rfl ?_   -- 18.1
                    have hrb : left ≤ 1025000 := by rw [hleft hkn]; exact hrs
                    refine V_sub1 (.n _) rfl rfl (wrap_ok (by omega)) rfl ?_   -- 18.2
                    refine V_asg (.n _) rfl rfl ?_   -- 18.3
                    refine V_sub [(0, _), (1, _), (2, _), (3, _), (4, _), (5, _), (6, _), (7, _), (8, _), (9, _), (10, _), (11, _), (30, _), (31, _), (33, _), (34, _), (77, _)] ⟨rfl, rfl, rfl, rfl, rfl, rfl, rfl, rfl, rfl, rfl, rfl, rfl, rfl, rfl, rfl, rfl, rfl, trivial⟩ ?_
                    refine V_nil (.inl rfl) ?_
                    refine E_then ?_
                    refine J_seq ?_
                    refine J_region ?_
                    refine V_mov (.n _) rfl rfl ?_   -- 19.0
                    refine V_mov (.n _) rfl rfl ?_   -- 19.1
                    refine V_shl (.n _) rfl rfl (by omega) (by simp [IntKind.bits]; omega) (by rw [shl_nat]; exact wrap_nat (lt63 (Nat.pow_lt_pow_right (by decide) (show j < 10 by omega)) (Nat.le_refl _))) rfl ?_   -- 19.2
                    rw [shl_nat]
                    refine V_or (r := (((endO 0 l) ||| 2 ^ j : Nat) : Int)) (.n _) rfl rfl (bits_or (by omega) (lt63 (Nat.pow_lt_pow_right (by decide) (show j < 10 by omega)) (Nat.le_refl _))) rfl ?_   -- 19.3
                    refine V_asg (.n _) rfl rfl ?_   -- 19.4
                    refine V_sub [(0, _), (1, _), (2, _), (3, _), (4, _), (5, _), (6, _), (7, _), (8, _), (9, _), (10, _), (11, _), (30, _), (31, _), (33, _), (34, _), (77, _)] ⟨rfl, rfl, rfl, rfl, rfl, rfl, rfl, rfl, rfl, rfl, rfl, rfl, rfl, rfl, rfl, rfl, rfl, trivial⟩ ?_
                    refine V_nil (.inl rfl) ?_
                    refine E_then ?_
                    refine J_seq ?_
                    refine J_region ?_
                    refine V_mov (.n _) rfl rfl ?_   -- 20.0
                    refine V_mov (.n _) rfl rfl ?_   -- 20.1
                    refine V_lit (.n _) Tryd.underlying34 Tryd.sizeOf3 Tryd.zeroValue3 (.cons rfl rfl rfl .nil) rfl rfl rfl (fun _ => trivial) (fun b87 => ?_)   -- 20.2
                    refine V_app (z := 1) (ms := I [(j : Int)]) (X := X) (G1 := [.c b87 3 [.int .i64 (j : Nat)]]) (.n _) Tryd.underlying34 Tryd.underlying34 Tryd.typeInfo3 rfl rfl rfl rfl rfl rfl rfl rfl hown (fun w1 hw1 => Rd.own hw1 (t := 3) (List.Mem.head _)) (by simp) (I_one _) (by omega) rfl ?_
                    intro v2 X2 hown2
                    obtain ⟨q1, q2, rfl, _⟩ := hown2.is
                    rw [show I [(j : Int)] = [.int .i64 (j : Int)] from rfl, ofN_snoc] at hown2
                    simp only [List.cons_append, List.nil_append]
                    refine V_asg (.n _) rfl rfl ?_   -- 20.4
                    refine V_sub [(0, _), (1, _), (2, _), (3, _), (4, _), (5, _), (6, _), (7, _), (8, _), (9, _), (10, _), (11, _), (30, _), (31, _), (33, _), (34, _), (77, _)] ⟨rfl, rfl, rfl, rfl, rfl, rfl, rfl, rfl, rfl, rfl, rfl, rfl, rfl, rfl, rfl, rfl, rfl, trivial⟩ ?_
                    refine V_nil (.inl rfl) ?_
                    refine E_then ?_
                    refine J_exit ?_
                    refine E_blk_exit rfl ?_
                    refine E_then_exit ?_
                    refine E_lp_exit ?_
                    refine E_blk_hit ?_
                    refine E_blk ?_
                    refine E_then ?_
                    refine J_region ?_
                    refine V_add (.n _) rfl rfl (wrap_ok (by omega)) rfl ?_   -- 22.0
                    refine V_mov (.n _) rfl rfl ?_   -- 22.1
                    refine V_sub [(0, _), (1, _), (2, _), (3, _), (4, _), (5, _), (6, _), (7, _), (8, _), (9, _), (10, _), (11, _), (30, _), (31, _), (33, _), (34, _), (77, _)] ⟨rfl, rfl, rfl, rfl, rfl, rfl, rfl, rfl, rfl, rfl, rfl, rfl, rfl, rfl, rfl, rfl, rfl, trivial⟩ ?_
                    refine V_nil (.inl rfl) ?_
                    -- again L0 0
                    have hcj : costJ st.length st ch (natB be) l j = left := by unfold costJ; omega
                    have hpk := pick_here (st := st) (ch := ch) (B := natB be) (l := l) (j := j) (by omega) hno (by rw [pk, hfo, hcj, hleft hkn, decide_eq_true rfl]; rfl)
                    refine E_again (X := Nat × List Nat × Value × Ent × Int) (KI := fun x => [(0, (.agg #[.slice A1 st.length c1, .slice A2 ch.length c2, .slice A3 be.length c3])), (1, (.pointer (some ⟨b1, 0, none⟩))), (2, (.slice none 0 0)), (3, (.int .i64 (0))), (4, (.int .i64 (st.length : Nat))), (5, (.slice (some ⟨bN, 0, none⟩) st.length st.length)), (6, (.slice (some ⟨bT, 0, none⟩) (st.length * 2 ^ st.length) (st.length * 2 ^ st.length))), (7, .int .i64 x.2.2.2.2), (8, .int .i64 ((endO 0 x.2.1 : Nat) : Int)), (9, x.2.2.1), (30, (.int .i64 (st.length : Nat))), (31, .int .i64 (x.1 : Nat))]) (GI := fun x => x.2.2.2.1 :: [.c bT 3 (I (priceT st.length ch (natB be))), .c bN 3 (I (needT st.length (natB be))), .c b1 51 [.slice A1 st.length c1, .slice A2 ch.length c2, .slice A3 be.length c3]]) (I := fun x => x.1 ≤ st.length ∧ x.2.1.length = x.1 ∧ okO st.length (natB be) 0 x.2.1 = true ∧ Own 3 1 x.2.2.1 x.1 (I (x.2.1.map Int.ofNat)) x.2.2.2.1 ∧ x.2.1 ++ bestO st.length st ch (natB be) (st.length - x.1) (endO 0 x.2.1) (lastO none x.2.1) = bestO st.length st ch (natB be) st.length 0 none ∧ (x.1 < st.length → x.2.2.2.2 = rest st.length st ch (natB be) (endO 0 x.2.1) (lastO none x.2.1))) (μ := fun x => st.length - x.1) (x := (k, l, .slice Ao k co, X, left)) ((k + 1, l ++ [j], .slice q1 (k + 1) q2, X2, left - after1 st ch (lastO none l) j)) ?_ ?_ ?_ (fun w h => h.sublist (List.sublist_cons_self _ _))
                    · show st.length - (k + 1) < st.length - k; omega
                    · dsimp only
                      exact ⟨by omega, by simp; omega, ok_step hok (by omega) hfo, hown2, best_step hlk hkn hpk hpath, fun h2 => rest_step hv.ok hpo hlk h2 hok (by omega) hfo hcj⟩
                    · refine ⟨?_, ?_, ?_, ?_, ?_, ?_, ?_, ?_, ?_, ?_, ?_, ?_, trivial⟩ <;> first | rfl | exact int_eq (by dsimp only; omega) | exact int_eq (by rw [endO_app])
                  · skip
                    refine J_skip ?_
                    refine E_blk ?_
                    refine E_then ?_
                    refine J_region ?_
                    refine V_add (.n _) rfl rfl (wrap_ok (by omega)) rfl ?_   -- 21.0
                    refine V_mov (.n _) rfl rfl ?_   -- 21.1
                    refine V_sub [(0, _), (1, _), (2, _), (3, _), (4, _), (5, _), (6, _), (7, _), (8, _), (9, _), (10, _), (11, _), (30, _), (31, _), (33, _), (34, _), (77, _)] ⟨rfl, rfl, rfl, rfl, rfl, rfl, rfl, rfl, rfl, rfl, rfl, rfl, rfl, rfl, rfl, rfl, rfl, trivial⟩ ?_
                    refine V_nil (.inl rfl) ?_
                    -- again L1 1
                    refine E_again (j + 1) ?_ ?_ ?_ (fun w h => h)
                    · omega
                    · refine ⟨by omega, fun i hi => ?_⟩
                      by_cases e : i = j
                      · subst e
                        exact pk_no (by first | exact .inl (by simpa using ‹(!fol _ _ _) = true›) | exact .inr (by unfold costJ; rw [← hleft hkn]; assumption))
                      · exact hno i (by omega)
                    · refine ⟨?_, ?_, ?_, ?_, ?_, ?_, ?_, ?_, ?_, ?_, ?_, ?_, ?_, ?_, trivial⟩ <;> first | rfl | exact int_eq (by omega) | exact int_eq (by dsimp only; omega)
            · exact absurd hp0 (pick_none (fun i hi => hno i (by omega)))
        · skip
          refine J_exit ?_
          refine E_then_exit ?_
          refine E_lp_exit ?_
          refine E_blk_hit ?_
          refine E_then ?_
          refine J_seq ?_
          refine J_region ?_
          refine V_mov (.n _) rfl rfl ?_   -- 23.0
          refine V_asg (.n _) rfl rfl ?_   -- 23.1
          refine V_asg (.n _) rfl rfl ?_   -- 23.2
          refine V_sub [(0, _), (1, _), (2, _), (3, _), (4, _), (5, _), (6, _), (7, _), (8, _), (9, _), (30, _), (31, _), (32, _)] ⟨rfl, rfl, rfl, rfl, rfl, rfl, rfl, rfl, rfl, rfl, rfl, rfl, rfl, trivial⟩ ?_
          refine V_nil (.inl rfl) ?_
          refine E_then ?_
          refine J_ret ?_
          -- return R2
          refine E_ret2 Tryd.results31 rfl rfl (fun w hw => ?_)
          obtain rfl : k = st.length := by omega
          rw [Nat.sub_self, bestO, List.append_nil] at hpath
          rw [hpath] at hown hlk
          exact ⟨Ao, co, [X], by rw [bestR_yes hv hpo]; dsimp only; rw [List.length_map, hlk], hw.sublist (by simp), by rw [bestR_yes hv hpo]; exact own_rds hown⟩

theorem RBest_spec (w : World) (A1 A2 A3 : Option Addr) (c1 c2 c3 : Nat) (vs : List Value) (st : List Int) (ch : Rows2) (be : List (Int × Int)) (hl1 : st.length ≤ 140737488351232) (hl2 : ch.length ≤ 140737488351232) (hl3 : be.length ≤ 140737488351232) (hp : PR w A1 A2 A3 vs st ch be) (hlr : ∀ r ∈ ch, r.length ≤ 140737488351232) : Calls Tryd.prog 41 #[.agg #[.slice A1 st.length c1, .slice A2 ch.length c2, .slice A3 be.length c3]] w fun e w' => ∃ A c D, e = .returned (.tuple #[.slice A (bestR st ch be).1.length c, .int .i64 (bestR st ch be).2]) ∧ St w D w' ∧ Rds D A (I (bestR st ch be).1) := by
  refine calls (args := [.agg #[.slice A1 st.length c1, .slice A2 ch.length c2, .slice A3 be.length c3]]) Tryd.func41 rfl Tryd.ntmps41 (Nat.le_of_ble_eq_true rfl) (St.refl w) ?_
  refine J_seq ?_
  refine J_region ?_
  refine V_box (.n _) rfl rfl rfl (fun _ => trivial) (fun b1 => ?_)   -- 0.0
  refine V_asg (.n _) rfl rfl ?_   -- 0.1
  refine V_asg (.n _) rfl rfl ?_   -- 0.2
  refine V_sub [(0, _), (1, _), (2, _), (3, _)] ⟨rfl, rfl, rfl, rfl, trivial⟩ ?_
  refine V_nil (.inl rfl) ?_
  refine E_then ?_
  refine J_seq ?_
  refine J_seq ?_
  refine J_region ?_
  refine V_ldN (.n _) Tryd.isAgg48 Tryd.sizeOf48 rfl (by repeat (first | exact List.Mem.head _ | assumption | apply List.Mem.tail | apply List.mem_append_right)) (by rfl) rfl rfl ?_   -- 1.0
  refine V_call0 (.n _) Tryd.call34 (.cons rfl .nil) (fun w1 hw1 => rvalid_spec w1 A1 A2 A3 c1 c2 c3 vs st ch be hl1 hl2 hl3 (hp.keep hw1) hlr) rfl trivial ?_   -- 1.1
  refine V_notB (.n _) rfl rfl ?_   -- 1.2
  refine V_sub [(0, _), (1, _), (2, _), (3, _), (14, _)] ⟨rfl, rfl, rfl, rfl, rfl, trivial⟩ ?_
  refine V_nil (.inl rfl) ?_
  refine E_then ?_
  refine J_condB rfl (fun h1 => ?_) (fun h1 => ?_)   -- C0
  · skip
    refine J_seq ?_
    refine J_region ?_
    refine V_asg (.n _) rfl rfl ?_   -- 2.0
    refine V_asg (.n _) rfl rfl ?_   -- 2.1
    refine V_sub [(0, _), (1, _), (2, _), (3, _), (14, _)] ⟨rfl, rfl, rfl, rfl, rfl, trivial⟩ ?_
    refine V_nil (.inl rfl) ?_
    refine E_then ?_
    refine J_ret ?_
    refine E_then_ret ?_
    -- return R0
    refine E_ret2 Tryd.results41 rfl rfl (fun w hw => ?_)
    exact ⟨none, 0, [], by rw [bestR_no (by assumption)]; rfl, hw.sub (fun x hx => by simp at hx) (by simp [keys]), by rw [bestR_no (by assumption)]; exact Rds.nil⟩
  · have hv := validP_iff.1 (show validP st ch be = true by simpa using h1)
    have hn10 := hv.n10
    have hn01 := hv.n1
    have hp1 := pow1024 hn10
    have hN := n2n hn10
    have hp0 := Nat.pow_pos (n := st.length) (show 0 < 2 by decide)
    have hchl := hv.chl
    have hfar : far2 = 1099511627776 := rfl
    refine J_skip ?_
    refine E_then ?_
    refine J_seq ?_
    refine J_seq ?_
    refine J_region ?_
    refine V_ldN (.n _) Tryd.isAgg48 Tryd.sizeOf48 rfl (by repeat (first | exact List.Mem.head _ | assumption | apply List.Mem.tail | apply List.mem_append_right)) (by rfl) rfl rfl ?_   -- 3.0
    refine V_call0 (.n _) Tryd.call81 (.cons rfl .nil) (fun w1 hw1 => rpossible_spec w1 A1 A2 A3 c1 c2 c3 vs st ch be hl1 hl2 hl3 (hp.keep hw1) hv) rfl trivial ?_   -- 3.1
    refine V_notB (.n _) rfl rfl ?_   -- 3.2
    refine V_sub [(0, _), (1, _), (2, _), (3, _), (14, _), (17, _)] ⟨rfl, rfl, rfl, rfl, rfl, rfl, trivial⟩ ?_
    refine V_nil (.inl rfl) ?_
    refine E_then ?_
    refine J_condB rfl (fun h2 => ?_) (fun h2 => ?_)   -- C1
    · have hpn : possible (natB be) st.length = false := by simpa using h2
      refine J_seq ?_
      refine J_region ?_
      refine V_asg (.n _) rfl rfl ?_   -- 4.0
      refine V_asg (.n _) rfl rfl ?_   -- 4.1
      refine V_sub [(0, _), (1, _), (2, _), (3, _), (14, _), (17, _)] ⟨rfl, rfl, rfl, rfl, rfl, rfl, trivial⟩ ?_
      refine V_nil (.inl rfl) ?_
      refine E_then ?_
      refine J_ret ?_
      refine E_then_ret ?_
      -- return R1
      refine E_ret2 Tryd.results41 rfl rfl (fun w hw => ?_)
      exact ⟨none, 0, [], by rw [bestR_none hv hpn]; rfl, hw.sub (fun x hx => by simp at hx) (by simp [keys]), by rw [bestR_none hv hpn]; exact Rds.nil⟩
    · have hpo : possible (natB be) st.length = true := by simpa using h2
      have hpl : (priceT st.length ch (natB be)).length = st.length * 2 ^ st.length := mkT_length _ _
      refine J_skip ?_
      refine E_then ?_
      refine J_seq ?_
      refine J_region ?_
      first | refine V_fa0 (.n _) fo48_0 rfl rfl ?_ | refine V_faz (.n _) fo48_0 rfl rfl ?_ | refine V_fa (.n _) fo48_0 rfl rfl ?_   -- 5.0
      refine V_ld (.n _) Tryd.isAgg34 rfl (by repeat (first | exact List.Mem.head _ | assumption | apply List.Mem.tail | apply List.mem_append_right)) (by rfl) rfl ?_   -- 5.1
      refine V_len (.n _) Tryd.underlying34 rfl rfl ?_   -- 5.2
      refine V_asg (.n _) rfl rfl ?_   -- 5.3
      refine V_sub [(0, _), (1, _), (2, _), (3, _), (4, _), (14, _), (17, _)] ⟨rfl, rfl, rfl, rfl, rfl, rfl, rfl, trivial⟩ ?_
      refine V_nil (.inl rfl) ?_
      refine E_then ?_
      refine J_seq ?_
      refine J_region ?_
      refine V_ldN (.n _) Tryd.isAgg48 Tryd.sizeOf48 rfl (by repeat (first | exact List.Mem.head _ | assumption | apply List.Mem.tail | apply List.mem_append_right)) (by rfl) rfl rfl ?_   -- 6.0
      refine V_call (post := fun v D => ∃ b, v = .slice (some ⟨b, 0, none⟩) (st.length * 2 ^ st.length) (st.length * 2 ^ st.length) ∧ D = [.c b 3 (I (priceT st.length ch (natB be)))]) (.n _) Tryd.call82 (.cons rfl .nil) (fun w1 hw1 => rprices_spec w1 A1 A2 A3 c1 c2 c3 vs st ch be hl1 hl2 hl3 (hp.keep hw1) hv) rfl trivial ?_
      rintro _ D ⟨bT, rfl, rfl⟩
      refine V_asg (.n _) rfl rfl ?_   -- 6.2
      refine V_sub [(0, _), (1, _), (2, _), (3, _), (4, _), (5, _), (14, _), (17, _)] ⟨rfl, rfl, rfl, rfl, rfl, rfl, rfl, rfl, trivial⟩ ?_
      refine V_nil (.inl rfl) ?_
      refine E_then ?_
      refine J_seq ?_
      refine J_region ?_
      refine V_asg (.n _) rfl rfl ?_   -- 7.0
      refine V_sub [(0, _), (1, _), (2, _), (3, _), (4, _), (5, _), (6, _), (14, _), (17, _)] ⟨rfl, rfl, rfl, rfl, rfl, rfl, rfl, rfl, rfl, trivial⟩ ?_
      refine V_nil (.inl rfl) ?_
      refine E_then ?_
      refine J_seq ?_
      refine J_region ?_
      refine V_asg (.n _) rfl rfl ?_   -- 8.0
      refine V_sub [(0, _), (1, _), (2, _), (3, _), (4, _), (5, _), (6, _), (7, _), (14, _), (17, _)] ⟨rfl, rfl, rfl, rfl, rfl, rfl, rfl, rfl, rfl, rfl, trivial⟩ ?_
      refine V_nil (.inl rfl) ?_
      refine E_then ?_
      refine J_seq ?_
      refine J_seq ?_
      refine J_region ?_
      refine V_mov (.n _) rfl rfl ?_   -- 9.0
      refine V_mov (.n _) rfl rfl ?_   -- 9.1
      refine V_sub [(0, _), (1, _), (2, _), (3, _), (4, _), (5, _), (6, _), (7, _), (14, _), (17, _), (23, _), (24, _)] ⟨rfl, rfl, rfl, rfl, rfl, rfl, rfl, rfl, rfl, rfl, rfl, rfl, trivial⟩ ?_
      refine V_nil (.inl rfl) ?_
      refine E_then ?_
      refine J_block ?_
      -- loop L0
      refine J_loop (X := Nat × List Nat × Value × Ent) (fun x => [(0, (.agg #[.slice A1 st.length c1, .slice A2 ch.length c2, .slice A3 be.length c3])), (1, (.pointer (some ⟨b1, 0, none⟩))), (2, (.slice none 0 0)), (3, (.int .i64 (0))), (4, (.int .i64 (st.length : Nat))), (5, (.slice (some ⟨bT, 0, none⟩) (st.length * 2 ^ st.length) (st.length * 2 ^ st.length))), (6, x.2.2.1), (7, .int .i64 ((endO 0 x.2.1 : Nat) : Int)), (23, (.int .i64 (st.length : Nat))), (24, .int .i64 (x.1 : Nat))]) (fun x => x.2.2.2 :: [.c bT 3 (I (priceT st.length ch (natB be))), .c b1 48 [.slice A1 st.length c1, .slice A2 ch.length c2, .slice A3 be.length c3]]) (fun x => x.1 ≤ st.length ∧ x.2.1.length = x.1 ∧ okO st.length (natB be) 0 x.2.1 = true ∧ Own 3 1 x.2.2.1 x.1 (I (x.2.1.map Int.ofNat)) x.2.2.2 ∧ x.2.1 ++ bestO st.length st ch (natB be) (st.length - x.1) (endO 0 x.2.1) (lastO none x.2.1) = bestO st.length st ch (natB be) st.length 0 none) (fun x => st.length - x.1) (0, [], .slice none 0 0, .e) (by refine ⟨?_, ?_, ?_, ?_, ?_, ?_, ?_, ?_, ?_, ?_, trivial⟩ <;> first | rfl | exact int_eq (by omega)) (fun w h => of_e h) ?_ ?_
      · exact ⟨Nat.zero_le _, rfl, rfl, Own.nil _ _ _, rfl⟩
      · rintro ⟨k, l, v, X⟩ ⟨hk, hlk, hok, hown, hpath⟩
        dsimp only at hk hlk hok hown hpath ⊢
        obtain ⟨Ao, co, rfl, _⟩ := hown.is
        refine J_seq ?_
        refine J_region ?_
        refine V_lss (.n _) rfl rfl rfl ?_   -- 10.0
        refine V_sub [(0, _), (1, _), (2, _), (3, _), (4, _), (5, _), (6, _), (7, _), (23, _), (24, _), (25, _)] ⟨rfl, rfl, rfl, rfl, rfl, rfl, rfl, rfl, rfl, rfl, rfl, trivial⟩ ?_
        refine V_nil (.inl rfl) ?_
        refine E_then ?_
        refine J_seq ?_
        refine J_cond rfl (fun h3 => ?_) (fun h3 => ?_)   -- C2
        · skip
          refine J_skip ?_
          refine E_then ?_
          refine J_seq ?_
          refine J_block ?_
          refine J_seq ?_
          refine J_region ?_
          refine V_asg (.n _) rfl rfl ?_   -- 11.0
          refine V_asg (.n _) rfl rfl ?_   -- 11.1
          refine V_sub [(0, _), (1, _), (2, _), (3, _), (4, _), (5, _), (6, _), (7, _), (8, _), (9, _), (23, _), (24, _), (25, _)] ⟨rfl, rfl, rfl, rfl, rfl, rfl, rfl, rfl, rfl, rfl, rfl, rfl, rfl, trivial⟩ ?_
          refine V_nil (.inl rfl) ?_
          refine E_then ?_
          refine J_seq ?_
          refine J_seq ?_
          refine J_region ?_
          refine V_mov (.n _) rfl rfl ?_   -- 12.0
          refine V_mov (.n _) rfl rfl ?_   -- 12.1
          refine V_sub [(0, _), (1, _), (2, _), (3, _), (4, _), (5, _), (6, _), (7, _), (8, _), (9, _), (23, _), (24, _), (25, _), (26, _), (27, _)] ⟨rfl, rfl, rfl, rfl, rfl, rfl, rfl, rfl, rfl, rfl, rfl, rfl, rfl, rfl, rfl, trivial⟩ ?_
          refine V_nil (.inl rfl) ?_
          refine E_then ?_
          refine J_block ?_
          -- loop L1
          have hkn : k < st.length := by omega
          obtain ⟨hsl, hsn⟩ := full_no hlk hkn hok
          refine J_loop (X := Nat × Int × Int) (fun x => [(0, (.agg #[.slice A1 st.length c1, .slice A2 ch.length c2, .slice A3 be.length c3])), (1, (.pointer (some ⟨b1, 0, none⟩))), (2, (.slice none 0 0)), (3, (.int .i64 (0))), (4, (.int .i64 (st.length : Nat))), (5, (.slice (some ⟨bT, 0, none⟩) (st.length * 2 ^ st.length) (st.length * 2 ^ st.length))), (6, (.slice Ao k co)), (7, .int .i64 (((endO 0 l) : Nat) : Int)), (8, .int .i64 x.2.1), (9, .int .i64 x.2.2), (23, (.int .i64 (st.length : Nat))), (24, .int .i64 (k : Nat)), (26, (.int .i64 (st.length : Nat))), (27, .int .i64 (x.1 : Nat))]) (fun x => X :: [.c bT 3 (I (priceT st.length ch (natB be))), .c b1 48 [.slice A1 st.length c1, .slice A2 ch.length c2, .slice A3 be.length c3]]) (fun x => x.1 ≤ st.length ∧ Amin st.length st ch (natB be) l x.1 x.2.1 x.2.2) (fun x => st.length - x.1) (0, -1, 1099511627776) (by refine ⟨?_, ?_, ?_, ?_, ?_, ?_, ?_, ?_, ?_, ?_, ?_, ?_, ?_, ?_, trivial⟩ <;> first | rfl | exact int_eq (by omega)) (fun w h => h) ?_ ?_
          · exact ⟨Nat.zero_le _, Int.le_refl _, fun i hi => by dsimp only at hi; omega, .inl ⟨rfl, rfl⟩⟩
          · rintro ⟨j, bb, mm⟩ ⟨hj, hA⟩
            dsimp only at hj hA ⊢
            refine J_seq ?_
            refine J_region ?_
            refine V_lss (.n _) rfl rfl rfl ?_   -- 13.0
            refine V_sub [(0, _), (1, _), (2, _), (3, _), (4, _), (5, _), (6, _), (7, _), (8, _), (9, _), (23, _), (24, _), (26, _), (27, _), (28, _)] ⟨rfl, rfl, rfl, rfl, rfl, rfl, rfl, rfl, rfl, rfl, rfl, rfl, rfl, rfl, rfl, trivial⟩ ?_
            refine V_nil (.inl rfl) ?_
            refine E_then ?_
            refine J_seq ?_
            refine J_cond rfl (fun h4 => ?_) (fun h4 => ?_)   -- C3
            · skip
              refine J_skip ?_
              refine E_then ?_
              refine J_seq ?_
              refine J_block ?_
              refine J_seq ?_
              refine J_region ?_
              refine V_mov (.n _) rfl rfl ?_   -- 14.0
              refine V_asg (.n _) rfl rfl ?_   -- 14.1
              refine V_sub [(0, _), (1, _), (2, _), (3, _), (4, _), (5, _), (6, _), (7, _), (8, _), (9, _), (10, _), (23, _), (24, _), (26, _), (27, _), (28, _)] ⟨rfl, rfl, rfl, rfl, rfl, rfl, rfl, rfl, rfl, rfl, rfl, rfl, rfl, rfl, rfl, rfl, trivial⟩ ?_
              refine V_nil (.inl rfl) ?_
              refine E_then ?_
              refine J_seq ?_
              refine J_seq ?_
              refine J_region ?_
              refine V_ldN (.n _) Tryd.isAgg48 Tryd.sizeOf48 rfl (by repeat (first | exact List.Mem.head _ | assumption | apply List.Mem.tail | apply List.mem_append_right)) (by rfl) rfl rfl ?_   -- 15.0
              refine V_mov (.n _) rfl rfl ?_   -- 15.1
              refine V_mov (.n _) rfl rfl ?_   -- 15.2
              refine V_call0 (.n _) Tryd.call83 (.cons rfl (.cons rfl (.cons rfl .nil))) (fun w1 hw1 => rfollows_spec w1 A1 A2 A3 c1 c2 c3 vs st ch be hl1 hl2 hl3 (hp.keep hw1) (endO 0 l) j hv hsl (by omega)) rfl trivial ?_   -- 15.3
              refine V_notB (.n _) rfl rfl ?_   -- 15.4
              refine V_sub [(0, _), (1, _), (2, _), (3, _), (4, _), (5, _), (6, _), (7, _), (8, _), (9, _), (10, _), (23, _), (24, _), (26, _), (27, _), (28, _), (34, _)] ⟨rfl, rfl, rfl, rfl, rfl, rfl, rfl, rfl, rfl, rfl, rfl, rfl, rfl, rfl, rfl, rfl, rfl, trivial⟩ ?_
              refine V_nil (.inl rfl) ?_
              refine E_then ?_
              refine J_condB rfl (fun h5 => ?_) (fun h5 => ?_)   -- C4
              · skip
                refine J_exit ?_
                refine E_then_exit ?_
                refine E_blk_hit ?_
                refine E_then ?_
                refine J_region ?_
                refine V_add (.n _) rfl rfl (wrap_ok (by omega)) rfl ?_   -- 22.0
                refine V_mov (.n _) rfl rfl ?_   -- 22.1
                refine V_sub [(0, _), (1, _), (2, _), (3, _), (4, _), (5, _), (6, _), (7, _), (8, _), (9, _), (10, _), (23, _), (24, _), (26, _), (27, _), (28, _), (34, _)] ⟨rfl, rfl, rfl, rfl, rfl, rfl, rfl, rfl, rfl, rfl, rfl, rfl, rfl, rfl, rfl, rfl, rfl, trivial⟩ ?_
                refine V_nil (.inl rfl) ?_
                -- again L1 0
                refine E_again (X := Nat × Int × Int) (KI := fun x => [(0, (.agg #[.slice A1 st.length c1, .slice A2 ch.length c2, .slice A3 be.length c3])), (1, (.pointer (some ⟨b1, 0, none⟩))), (2, (.slice none 0 0)), (3, (.int .i64 (0))), (4, (.int .i64 (st.length : Nat))), (5, (.slice (some ⟨bT, 0, none⟩) (st.length * 2 ^ st.length) (st.length * 2 ^ st.length))), (6, (.slice Ao k co)), (7, .int .i64 (((endO 0 l) : Nat) : Int)), (8, .int .i64 x.2.1), (9, .int .i64 x.2.2), (23, (.int .i64 (st.length : Nat))), (24, .int .i64 (k : Nat)), (26, (.int .i64 (st.length : Nat))), (27, .int .i64 (x.1 : Nat))]) (GI := fun x => X :: [.c bT 3 (I (priceT st.length ch (natB be))), .c b1 48 [.slice A1 st.length c1, .slice A2 ch.length c2, .slice A3 be.length c3]]) (I := fun x => x.1 ≤ st.length ∧ Amin st.length st ch (natB be) l x.1 x.2.1 x.2.2) (μ := fun x => st.length - x.1) (x := (j, bb, mm)) ((j + 1, bb, mm)) ?_ ?_ ?_ (fun w h => h)
                · show st.length - (j + 1) < st.length - j; omega
                · dsimp only
                  exact ⟨by omega, hA.skip (fun h => by simp_all)⟩
                · refine ⟨?_, ?_, ?_, ?_, ?_, ?_, ?_, ?_, ?_, ?_, ?_, ?_, ?_, ?_, trivial⟩ <;> first | rfl | exact int_eq (by omega) | exact int_eq (by dsimp only; omega)
              · have hfo : fol (natB be) (endO 0 l) j = true := by simpa using h5
                refine J_skip ?_
                refine E_then ?_
                refine J_seq ?_
                refine J_region ?_
                first | refine V_fa0 (.n _) fo48_0 rfl rfl ?_ | refine V_faz (.n _) fo48_0 rfl rfl ?_ | refine V_fa (.n _) fo48_0 rfl rfl ?_   -- 16.0
                refine V_ld (.n _) Tryd.isAgg34 rfl (by repeat (first | exact List.Mem.head _ | assumption | apply List.Mem.tail | apply List.mem_append_right)) (by rfl) rfl ?_   -- 16.1
                refine V_mov (.n _) rfl rfl ?_   -- 16.2
                first | refine V_ix (.n _) Tryd.underlying34 Tryd.sizeOf3 rfl rfl (by omega) (by omega) rfl ?_ | refine V_ixz (.n _) Tryd.underlying34 Tryd.sizeOf3 rfl rfl (hp.h2.rd.pl (by rw [hp.h2.len]; omega)) (by omega) (by omega) rfl ?_ | refine V_ixz (.n _) Tryd.underlying34 Tryd.sizeOf3 rfl rfl (hrr.pl (by simp)) (by omega) (by omega) rfl ?_ | refine V_ixz (.n _) Tryd.underlying34 Tryd.sizeOf3 rfl rfl (hp.h1.pl (by simp)) (by omega) (by omega) rfl ?_ | refine V_ixz (.n _) Tryd.underlying34 Tryd.sizeOf3 rfl rfl (own_pl hown) (by omega) (by omega) rfl ?_   -- 16.3
                refine V_ldz (.n _) Tryd.isAgg3 rfl hp.h1 (I_getN (i := j) (by omega)) rfl ?_   -- 16.4
                refine V_asg (.n _) rfl rfl ?_   -- 16.5
                refine V_sub [(0, _), (1, _), (2, _), (3, _), (4, _), (5, _), (6, _), (7, _), (8, _), (9, _), (10, _), (11, _), (23, _), (24, _), (26, _), (27, _), (28, _), (34, _)] ⟨rfl, rfl, rfl, rfl, rfl, rfl, rfl, rfl, rfl, rfl, rfl, rfl, rfl, rfl, rfl, rfl, rfl, rfl, trivial⟩ ?_
                refine V_nil (.inl rfl) ?_
                refine E_then ?_
                refine J_seq ?_
                refine J_seq ?_
                refine J_region ?_
                refine V_mov (.n _) rfl rfl ?_   -- 17.0
                refine V_len (.n _) Tryd.underlying34 rfl rfl ?_   -- 17.1
                refine V_gtr (.n _) rfl rfl rfl ?_   -- 17.2
                refine V_sub [(0, _), (1, _), (2, _), (3, _), (4, _), (5, _), (6, _), (7, _), (8, _), (9, _), (10, _), (11, _), (23, _), (24, _), (26, _), (27, _), (28, _), (34, _), (42, _)] ⟨rfl, rfl, rfl, rfl, rfl, rfl, rfl, rfl, rfl, rfl, rfl, rfl, rfl, rfl, rfl, rfl, rfl, rfl, rfl, trivial⟩ ?_
                refine V_nil (.inl rfl) ?_
                refine E_then ?_
                -- join C5
                refine J_cut (X := Unit) (fun _ => [(0, (.agg #[.slice A1 st.length c1, .slice A2 ch.length c2, .slice A3 be.length c3])), (1, (.pointer (some ⟨b1, 0, none⟩))), (2, (.slice none 0 0)), (3, (.int .i64 (0))), (4, (.int .i64 (st.length : Nat))), (5, (.slice (some ⟨bT, 0, none⟩) (st.length * 2 ^ st.length) (st.length * 2 ^ st.length))), (6, (.slice Ao k co)), (7, .int .i64 (((endO 0 l) : Nat) : Int)), (8, .int .i64 bb), (9, .int .i64 mm), (10, .int .i64 (j : Nat)), (11, .int .i64 (after1 st ch (lastO none l) j)), (23, (.int .i64 (st.length : Nat))), (24, .int .i64 (k : Nat)), (26, (.int .i64 (st.length : Nat))), (27, .int .i64 (j : Nat))]) (fun _ => X :: [.c bT 3 (I (priceT st.length ch (natB be))), .c b1 48 [.slice A1 st.length c1, .slice A2 ch.length c2, .slice A3 be.length c3]]) (fun _ => True) ?_ ?_
                · skip
                  refine J_cond rfl (fun h6 => ?_) (fun h6 => ?_)   -- C5
                  · skip
                    refine J_draw (Gs := _) (cl := [.p, .r, .p, .p, .p, .p, .p, .r, .p, .r, .p, .p, .r, .p]) (by kernel_rfl) (fun _ _ h => h) ?_
                    first | refine V_fa0 (.s _ _ _) fo48_1 rfl rfl ?_ | refine V_faz (.s _ _ _) fo48_1 rfl rfl ?_ | refine V_fa (.s _ _ _) fo48_1 rfl rfl ?_   -- 18.0
                    refine V_ld (.s _ _ _) Tryd.isAgg45 rfl (by repeat (first | exact List.Mem.head _ | assumption | apply List.Mem.tail | apply List.mem_append_right)) (by rfl) rfl ?_   -- 18.1
                    refine V_mov (.s _ _ _) rfl rfl ?_   -- 18.2
                    refine V_mov (.s _ _ _) rfl rfl ?_   -- 18.3
                    refine V_len (.s _ _ _) Tryd.underlying34 rfl rfl ?_   -- 18.4
                    obtain ⟨q, rfl⟩ : ∃ q, k = q + 1 := ⟨k - 1, by omega⟩
                    have hlast := lastO_get (o := none) hlk
                    have hli : l.getD q 0 < st.length := okO_lt _ _ hok _ (getD_mem (by omega))
                    generalize hiq : l.getD q 0 = i at *
                    refine V_sub1 (.s _ _ _) rfl rfl (wrap_ok (by omega)) rfl ?_   -- 18.5
                    rw [show (((q + 1 : Nat) : Int) - 1) = (q : Int) by omega]
                    first | refine V_ix (.s _ _ _) Tryd.underlying34 Tryd.sizeOf3 rfl rfl (by omega) (by omega) rfl ?_ | refine V_ixz (.s _ _ _) Tryd.underlying34 Tryd.sizeOf3 rfl rfl (hp.h2.rd.pl (by rw [hp.h2.len]; omega)) (by omega) (by omega) rfl ?_ | refine V_ixz (.s _ _ _) Tryd.underlying34 Tryd.sizeOf3 rfl rfl (hrr.pl (by simp)) (by omega) (by omega) rfl ?_ | refine V_ixz (.s _ _ _) Tryd.underlying34 Tryd.sizeOf3 rfl rfl (hp.h1.pl (by simp)) (by omega) (by omega) rfl ?_ | refine V_ixz (.s _ _ _) Tryd.underlying34 Tryd.sizeOf3 rfl rfl (own_pl hown) (by omega) (by omega) rfl ?_   -- 18.6
                    refine V_ldo (.s _ _ _) Tryd.isAgg3 rfl (fun w1 hw1 => hown.rd (hw1.has _ (List.Mem.head _))) (I_getN (i := q) (by rw [List.length_map]; omega)) rfl ?_   -- 18.7
                    rw [ofN_get, hiq]
                    first | refine V_ix (.s _ _ _) Tryd.underlying45 Tryd.sizeOf34 rfl rfl (by omega) (by omega) rfl ?_ | refine V_ixz (.s _ _ _) Tryd.underlying45 Tryd.sizeOf34 rfl rfl (hp.h2.rd.pl (by rw [hp.h2.len]; omega)) (by omega) (by omega) rfl ?_ | refine V_ixz (.s _ _ _) Tryd.underlying45 Tryd.sizeOf34 rfl rfl (hrr.pl (by simp)) (by omega) (by omega) rfl ?_ | refine V_ixz (.s _ _ _) Tryd.underlying45 Tryd.sizeOf34 rfl rfl (hp.h1.pl (by simp)) (by omega) (by omega) rfl ?_ | refine V_ixz (.s _ _ _) Tryd.underlying45 Tryd.sizeOf34 rfl rfl (own_pl hown) (by omega) (by omega) rfl ?_   -- 18.8
                    obtain ⟨Ai, ci, hrow, hrr⟩ := hp.h2.get (i := i) (by omega)
                    have hrl := (hv.row (i := i) (by omega)).1
                    refine V_ldz (.s _ _ _) Tryd.isAgg34 rfl hp.h2.rd hrow rfl ?_   -- 18.9
                    refine V_mov (.s _ _ _) rfl rfl ?_   -- 18.10
                    first | refine V_ix (.s _ _ _) Tryd.underlying34 Tryd.sizeOf3 rfl rfl (by omega) (by omega) rfl ?_ | refine V_ixz (.s _ _ _) Tryd.underlying34 Tryd.sizeOf3 rfl rfl (hp.h2.rd.pl (by rw [hp.h2.len]; omega)) (by omega) (by omega) rfl ?_ | refine V_ixz (.s _ _ _) Tryd.underlying34 Tryd.sizeOf3 rfl rfl (hrr.pl (by simp)) (by omega) (by omega) rfl ?_ | refine V_ixz (.s _ _ _) Tryd.underlying34 Tryd.sizeOf3 rfl rfl (hp.h1.pl (by simp)) (by omega) (by omega) rfl ?_ | refine V_ixz (.s _ _ _) Tryd.underlying34 Tryd.sizeOf3 rfl rfl (own_pl hown) (by omega) (by omega) rfl ?_   -- 18.11
                    refine V_ldz (.s _ _ _) Tryd.isAgg3 rfl hrr (I_getN (i := j) (by omega)) rfl ?_   -- 18.12
                    rw [show (ch.getD i []).getD j 0 = cst ch i j from rfl]
                    have hcb := hv.ok.change i j (by omega) (by omega)
                    refine V_asg (.s _ _ _) rfl rfl ?_   -- 18.13
                    refine V_sub [(0, _), (1, _), (2, _), (3, _), (4, _), (5, _), (6, _), (7, _), (8, _), (9, _), (10, _), (11, _), (23, _), (24, _), (26, _), (27, _), (28, _), (34, _), (42, _)] ⟨rfl, rfl, rfl, rfl, rfl, rfl, rfl, rfl, rfl, rfl, rfl, rfl, rfl, rfl, rfl, rfl, rfl, rfl, rfl, trivial⟩ ?_
                    refine V_nil (.inr ⟨_, rfl⟩) ?_
                    -- again C5 0
                    refine E_meet (()) ?_ ?_ (fun w h => h)
                    · trivial
                    · refine ⟨?_, ?_, ?_, ?_, ?_, ?_, ?_, ?_, ?_, ?_, ?_, ?_, ?_, ?_, ?_, ?_, trivial⟩ <;> first | rfl | exact int_eq (by rw [hlast]; rfl) | exact int_eq (by omega)
                  · skip
                    refine J_skip ?_
                    -- again C5 1
                    have hk00 : k = 0 := by omega
                    subst hk00
                    obtain rfl : l = [] := List.length_eq_zero_iff.1 hlk
                    refine E_meet (()) ?_ ?_ (fun w h => h)
                    · trivial
                    · refine ⟨?_, ?_, ?_, ?_, ?_, ?_, ?_, ?_, ?_, ?_, ?_, ?_, ?_, ?_, ?_, ?_, trivial⟩ <;> first | rfl | exact int_eq (by omega)
                · rintro _ -
                  refine E_then ?_
                  refine J_seq ?_
                  refine J_region ?_
                  refine V_mov (.n _) rfl rfl ?_   -- 19.0
                  refine V_mov (.n _) rfl rfl ?_   -- 19.1
                  refine V_mov (.n _) rfl rfl ?_   -- 19.2
                  refine V_mov (.n _) rfl rfl ?_   -- 19.3
                  refine V_mov (.n _) rfl rfl ?_   -- 19.4
                  have hsj := or_lt hsl (show j < st.length by omega)
                  have hix := ix_lt (n := st.length) (s := (endO 0 l) ||| 2 ^ j) (i := j) (m := 2 ^ st.length) (by omega) hsj
                  have hpb := pay_bd (be := natB be) hv.ok.change (2 ^ st.length - ((endO 0 l) ||| 2 ^ j)) ((endO 0 l) ||| 2 ^ j) j (by omega) (by omega) (by omega)
                  have hab := after1_bd hv.ok (last_lt hok) (show j < st.length by omega)
                  refine V_shl (.n _) rfl rfl (by omega) (by simp [IntKind.bits]; omega) (by rw [shl_nat]; exact wrap_nat (lt63 (Nat.pow_lt_pow_right (by decide) (show j < 10 by omega)) (Nat.le_refl _))) rfl ?_   -- 19.5
                  rw [shl_nat]
                  refine V_or (r := (((endO 0 l) ||| 2 ^ j : Nat) : Int)) (.n _) rfl rfl (bits_or (by omega) (lt63 (Nat.pow_lt_pow_right (by decide) (show j < 10 by omega)) (Nat.le_refl _))) rfl ?_   -- 19.6
                  refine V_mul (.n _) rfl rfl (by rw [mulcast]; exact wrap_nat (by omega)) rfl ?_   -- 19.7
                  rw [mulcast]
                  refine V_mov (.n _) rfl rfl ?_   -- 19.8
                  refine V_add (.n _) rfl rfl (wrap_ok (by omega)) rfl ?_   -- 19.9
                  rw [show ((st.length * ((endO 0 l) ||| 2 ^ j) : Nat) : Int) + (j : Int) = ((st.length * ((endO 0 l) ||| 2 ^ j) + j : Nat) : Int) by omega]
                  first | refine V_ix (.n _) Tryd.underlying34 Tryd.sizeOf3 rfl rfl (by omega) (by omega) rfl ?_ | refine V_ixz (.n _) Tryd.underlying34 Tryd.sizeOf3 rfl rfl (hp.h2.rd.pl (by rw [hp.h2.len]; omega)) (by omega) (by omega) rfl ?_ | refine V_ixz (.n _) Tryd.underlying34 Tryd.sizeOf3 rfl rfl (hrr.pl (by simp)) (by omega) (by omega) rfl ?_ | refine V_ixz (.n _) Tryd.underlying34 Tryd.sizeOf3 rfl rfl (hp.h1.pl (by simp)) (by omega) (by omega) rfl ?_ | refine V_ixz (.n _) Tryd.underlying34 Tryd.sizeOf3 rfl rfl (own_pl hown) (by omega) (by omega) rfl ?_   -- 19.10
                  refine V_ld (.n _) Tryd.isAgg3 rfl (by repeat (first | exact List.Mem.head _ | assumption | apply List.Mem.tail | apply List.mem_append_right)) (I_getN (xs := priceT st.length ch (natB be)) (i := st.length * ((endO 0 l) ||| 2 ^ j) + j) (by omega)) rfl ?_   -- 19.11
                  rw [price_get (by omega) hsj]
                  refine V_add (.n _) rfl rfl (wrap_ok (by omega)) rfl ?_   -- 19.12
                  rw [show after1 st ch (lastO none l) j + pay st.length ch (natB be) ((endO 0 l) ||| 2 ^ j) j = costJ st.length st ch (natB be) l j from rfl]
                  refine V_asg (.n _) rfl rfl ?_   -- 19.13
                  refine V_sub [(0, _), (1, _), (2, _), (3, _), (4, _), (5, _), (6, _), (7, _), (8, _), (9, _), (10, _), (11, _), (23, _), (24, _), (26, _), (27, _)] ⟨rfl, rfl, rfl, rfl, rfl, rfl, rfl, rfl, rfl, rfl, rfl, rfl, rfl, rfl, rfl, rfl, trivial⟩ ?_
                  refine V_nil (.inl rfl) ?_
                  refine E_then ?_
                  refine J_seq ?_
                  refine J_region ?_
                  refine V_mov (.n _) rfl rfl ?_   -- 20.0
                  refine V_mov (.n _) rfl rfl ?_   -- 20.1
                  refine V_lss (.n _) rfl rfl rfl ?_   -- 20.2
                  refine V_sub [(0, _), (1, _), (2, _), (3, _), (4, _), (5, _), (6, _), (7, _), (8, _), (9, _), (10, _), (11, _), (23, _), (24, _), (26, _), (27, _), (71, _)] ⟨rfl, rfl, rfl, rfl, rfl, rfl, rfl, rfl, rfl, rfl, rfl, rfl, rfl, rfl, rfl, rfl, rfl, trivial⟩ ?_
                  refine V_nil (.inl rfl) ?_
                  refine E_then ?_
                  refine J_cond rfl (fun h7 => ?_) (fun h7 => ?_)   -- C6
                  · skip
                    refine J_region ?_
                    refine V_mov (.n _) rfl rfl ?_   -- 21.0
                    refine V_mov (.n _) rfl rfl ?_   -- 21.1
                    refine V_asg (.n _) rfl rfl ?_   -- 21.2
                    refine V_asg (.n _) rfl rfl ?_   -- 21.3
                    refine V_sub [(0, _), (1, _), (2, _), (3, _), (4, _), (5, _), (6, _), (7, _), (8, _), (9, _), (10, _), (11, _), (23, _), (24, _), (26, _), (27, _), (71, _)] ⟨rfl, rfl, rfl, rfl, rfl, rfl, rfl, rfl, rfl, rfl, rfl, rfl, rfl, rfl, rfl, rfl, rfl, trivial⟩ ?_
                    refine V_nil (.inl rfl) ?_
                    refine E_blk ?_
                    refine E_then ?_
                    refine J_region ?_
                    refine V_add (.n _) rfl rfl (wrap_ok (by omega)) rfl ?_   -- 22.0
                    refine V_mov (.n _) rfl rfl ?_   -- 22.1
                    refine V_sub [(0, _), (1, _), (2, _), (3, _), (4, _), (5, _), (6, _), (7, _), (8, _), (9, _), (10, _), (11, _), (23, _), (24, _), (26, _), (27, _), (71, _)] ⟨rfl, rfl, rfl, rfl, rfl, rfl, rfl, rfl, rfl, rfl, rfl, rfl, rfl, rfl, rfl, rfl, rfl, trivial⟩ ?_
                    refine V_nil (.inl rfl) ?_
                    -- again L1 1
                    refine E_again (X := Nat × Int × Int) (KI := fun x => [(0, (.agg #[.slice A1 st.length c1, .slice A2 ch.length c2, .slice A3 be.length c3])), (1, (.pointer (some ⟨b1, 0, none⟩))), (2, (.slice none 0 0)), (3, (.int .i64 (0))), (4, (.int .i64 (st.length : Nat))), (5, (.slice (some ⟨bT, 0, none⟩) (st.length * 2 ^ st.length) (st.length * 2 ^ st.length))), (6, (.slice Ao k co)), (7, .int .i64 (((endO 0 l) : Nat) : Int)), (8, .int .i64 x.2.1), (9, .int .i64 x.2.2), (23, (.int .i64 (st.length : Nat))), (24, .int .i64 (k : Nat)), (26, (.int .i64 (st.length : Nat))), (27, .int .i64 (x.1 : Nat))]) (GI := fun x => X :: [.c bT 3 (I (priceT st.length ch (natB be))), .c b1 48 [.slice A1 st.length c1, .slice A2 ch.length c2, .slice A3 be.length c3]]) (I := fun x => x.1 ≤ st.length ∧ Amin st.length st ch (natB be) l x.1 x.2.1 x.2.2) (μ := fun x => st.length - x.1) (x := (j, bb, mm)) ((j + 1, (j : Int), costJ st.length st ch (natB be) l j)) ?_ ?_ ?_ (fun w h => h)
                    · show st.length - (j + 1) < st.length - j; omega
                    · dsimp only
                      exact ⟨by omega, hA.take hfo (by assumption)⟩
                    · refine ⟨?_, ?_, ?_, ?_, ?_, ?_, ?_, ?_, ?_, ?_, ?_, ?_, ?_, ?_, trivial⟩ <;> first | rfl | exact int_eq (by omega) | exact int_eq (by dsimp only; omega)
                  · skip
                    refine J_skip ?_
                    refine E_blk ?_
                    refine E_then ?_
                    refine J_region ?_
                    refine V_add (.n _) rfl rfl (wrap_ok (by omega)) rfl ?_   -- 22.0
                    refine V_mov (.n _) rfl rfl ?_   -- 22.1
                    refine V_sub [(0, _), (1, _), (2, _), (3, _), (4, _), (5, _), (6, _), (7, _), (8, _), (9, _), (10, _), (11, _), (23, _), (24, _), (26, _), (27, _), (71, _)] ⟨rfl, rfl, rfl, rfl, rfl, rfl, rfl, rfl, rfl, rfl, rfl, rfl, rfl, rfl, rfl, rfl, rfl, trivial⟩ ?_
                    refine V_nil (.inl rfl) ?_
                    -- again L1 2
                    refine E_again (X := Nat × Int × Int) (KI := fun x => [(0, (.agg #[.slice A1 st.length c1, .slice A2 ch.length c2, .slice A3 be.length c3])), (1, (.pointer (some ⟨b1, 0, none⟩))), (2, (.slice none 0 0)), (3, (.int .i64 (0))), (4, (.int .i64 (st.length : Nat))), (5, (.slice (some ⟨bT, 0, none⟩) (st.length * 2 ^ st.length) (st.length * 2 ^ st.length))), (6, (.slice Ao k co)), (7, .int .i64 (((endO 0 l) : Nat) : Int)), (8, .int .i64 x.2.1), (9, .int .i64 x.2.2), (23, (.int .i64 (st.length : Nat))), (24, .int .i64 (k : Nat)), (26, (.int .i64 (st.length : Nat))), (27, .int .i64 (x.1 : Nat))]) (GI := fun x => X :: [.c bT 3 (I (priceT st.length ch (natB be))), .c b1 48 [.slice A1 st.length c1, .slice A2 ch.length c2, .slice A3 be.length c3]]) (I := fun x => x.1 ≤ st.length ∧ Amin st.length st ch (natB be) l x.1 x.2.1 x.2.2) (μ := fun x => st.length - x.1) (x := (j, bb, mm)) ((j + 1, bb, mm)) ?_ ?_ ?_ (fun w h => h)
                    · show st.length - (j + 1) < st.length - j; omega
                    · dsimp only
                      exact ⟨by omega, hA.skip (fun _ => by omega)⟩
                    · refine ⟨?_, ?_, ?_, ?_, ?_, ?_, ?_, ?_, ?_, ?_, ?_, ?_, ?_, ?_, trivial⟩ <;> first | rfl | exact int_eq (by omega) | exact int_eq (by dsimp only; omega)
            · obtain rfl : j = st.length := by omega
              obtain ⟨j, hj, rfl, hfo, hpk⟩ := hA.pick hv.ok hpo hlk hkn hok
              refine J_exit ?_
              refine E_then_exit ?_
              refine E_lp_exit ?_
              refine E_blk_hit ?_
              refine E_then ?_
              refine J_seq ?_
              refine J_region ?_
              refine V_mov (.n _) rfl rfl ?_   -- 23.0
              refine V_mov (.n _) rfl rfl ?_   -- 23.1
              refine V_lit (.n _) Tryd.underlying34 Tryd.sizeOf3 Tryd.zeroValue3 (.cons rfl rfl rfl .nil) rfl rfl rfl (fun _ => trivial) (fun b77 => ?_)   -- 23.2
              refine V_app (z := 1) (ms := I [(j : Int)]) (X := X) (G1 := [.c b77 3 [.int .i64 (j : Nat)]]) (.n _) Tryd.underlying34 Tryd.underlying34 Tryd.typeInfo3 rfl rfl rfl rfl rfl rfl rfl rfl hown (fun w1 hw1 => Rd.own hw1 (t := 3) (List.Mem.head _)) (by simp) (I_one _) (by omega) rfl ?_
              intro v2 X2 hown2
              obtain ⟨q1, q2, rfl, _⟩ := hown2.is
              rw [show I [(j : Int)] = [.int .i64 (j : Int)] from rfl, ofN_snoc] at hown2
              simp only [List.cons_append, List.nil_append]
              refine V_asg (.n _) rfl rfl ?_   -- 23.4
              refine V_sub [(0, _), (1, _), (2, _), (3, _), (4, _), (5, _), (6, _), (7, _), (8, _), (9, _), (23, _), (24, _), (26, _), (27, _), (28, _)] ⟨rfl, rfl, rfl, rfl, rfl, rfl, rfl, rfl, rfl, rfl, rfl, rfl, rfl, rfl, rfl, trivial⟩ ?_
              refine V_nil (.inl rfl) ?_
              refine E_then ?_
              refine J_region ?_
              refine V_mov (.n _) rfl rfl ?_   -- 24.0
              refine V_mov (.n _) rfl rfl ?_   -- 24.1
              refine V_shl (.n _) rfl rfl (by omega) (by simp [IntKind.bits]; omega) (by rw [shl_nat]; exact wrap_nat (lt63 (Nat.pow_lt_pow_right (by decide) (show j < 10 by omega)) (Nat.le_refl _))) rfl ?_   -- 24.2
              rw [shl_nat]
              refine V_or (r := (((endO 0 l) ||| 2 ^ j : Nat) : Int)) (.n _) rfl rfl (bits_or (by omega) (lt63 (Nat.pow_lt_pow_right (by decide) (show j < 10 by omega)) (Nat.le_refl _))) rfl ?_   -- 24.3
              refine V_asg (.n _) rfl rfl ?_   -- 24.4
              refine V_sub [(0, _), (1, _), (2, _), (3, _), (4, _), (5, _), (6, _), (7, _), (8, _), (9, _), (23, _), (24, _), (26, _), (27, _), (28, _)] ⟨rfl, rfl, rfl, rfl, rfl, rfl, rfl, rfl, rfl, rfl, rfl, rfl, rfl, rfl, rfl, trivial⟩ ?_
              refine V_nil (.inl rfl) ?_
              refine E_blk ?_
              refine E_then ?_
              refine J_region ?_
              refine V_add (.n _) rfl rfl (wrap_ok (by omega)) rfl ?_   -- 25.0
              refine V_mov (.n _) rfl rfl ?_   -- 25.1
              refine V_sub [(0, _), (1, _), (2, _), (3, _), (4, _), (5, _), (6, _), (7, _), (8, _), (9, _), (23, _), (24, _), (26, _), (27, _), (28, _)] ⟨rfl, rfl, rfl, rfl, rfl, rfl, rfl, rfl, rfl, rfl, rfl, rfl, rfl, rfl, rfl, trivial⟩ ?_
              refine V_nil (.inl rfl) ?_
              -- again L0 0
              refine E_again (X := Nat × List Nat × Value × Ent) (KI := fun x => [(0, (.agg #[.slice A1 st.length c1, .slice A2 ch.length c2, .slice A3 be.length c3])), (1, (.pointer (some ⟨b1, 0, none⟩))), (2, (.slice none 0 0)), (3, (.int .i64 (0))), (4, (.int .i64 (st.length : Nat))), (5, (.slice (some ⟨bT, 0, none⟩) (st.length * 2 ^ st.length) (st.length * 2 ^ st.length))), (6, x.2.2.1), (7, .int .i64 ((endO 0 x.2.1 : Nat) : Int)), (23, (.int .i64 (st.length : Nat))), (24, .int .i64 (x.1 : Nat))]) (GI := fun x => x.2.2.2 :: [.c bT 3 (I (priceT st.length ch (natB be))), .c b1 48 [.slice A1 st.length c1, .slice A2 ch.length c2, .slice A3 be.length c3]]) (I := fun x => x.1 ≤ st.length ∧ x.2.1.length = x.1 ∧ okO st.length (natB be) 0 x.2.1 = true ∧ Own 3 1 x.2.2.1 x.1 (I (x.2.1.map Int.ofNat)) x.2.2.2 ∧ x.2.1 ++ bestO st.length st ch (natB be) (st.length - x.1) (endO 0 x.2.1) (lastO none x.2.1) = bestO st.length st ch (natB be) st.length 0 none) (μ := fun x => st.length - x.1) (x := (k, l, .slice Ao k co, X)) ((k + 1, l ++ [j], .slice q1 (k + 1) q2, X2)) ?_ ?_ ?_ (fun w h => h.sublist (List.sublist_cons_self _ _))
              · show st.length - (k + 1) < st.length - k; omega
              · dsimp only
                exact ⟨by omega, by simp; omega, ok_step hok (by omega) hfo, hown2, best_step hlk hkn hpk hpath⟩
              · refine ⟨?_, ?_, ?_, ?_, ?_, ?_, ?_, ?_, ?_, ?_, trivial⟩ <;> first | rfl | exact int_eq (by dsimp only; omega) | exact int_eq (by rw [endO_app])
        · skip
          refine J_exit ?_
          refine E_then_exit ?_
          refine E_lp_exit ?_
          refine E_blk_hit ?_
          refine E_then ?_
          refine J_seq ?_
          refine J_region ?_
          refine V_mov (.n _) rfl rfl ?_   -- 26.0
          refine V_asg (.n _) rfl rfl ?_   -- 26.1
          refine V_asg (.n _) rfl rfl ?_   -- 26.2
          refine V_sub [(0, _), (1, _), (2, _), (3, _), (4, _), (5, _), (6, _), (7, _), (23, _), (24, _), (25, _)] ⟨rfl, rfl, rfl, rfl, rfl, rfl, rfl, rfl, rfl, rfl, rfl, trivial⟩ ?_
          refine V_nil (.inl rfl) ?_
          refine E_then ?_
          refine J_ret ?_
          -- return R2
          refine E_ret2 Tryd.results41 rfl rfl (fun w hw => ?_)
          obtain rfl : k = st.length := by omega
          rw [Nat.sub_self, bestO, List.append_nil] at hpath
          rw [hpath] at hown hlk
          exact ⟨Ao, co, [X], by rw [bestR_yes hv hpo]; dsimp only; rw [List.length_map, hlk], hw.sublist (by simp), by rw [bestR_yes hv hpo]; exact own_rds hown⟩

end Go.Proofs.YtgeahmmepfmcoaaDoor
