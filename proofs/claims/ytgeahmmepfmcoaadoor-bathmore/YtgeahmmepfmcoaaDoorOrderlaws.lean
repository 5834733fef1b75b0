/- parts of the proofs of the bath statements -/
import Derived.Test.YtgeahmmepfmcoaaDoorBest
import Derived.Test.YtgeahmmepfmcoaaDoorOf
import Derived.Test.YtgeahmmepfmcoaaDoorShort
namespace Go.Proofs.YtgeahmmepfmcoaaDoor
open Go Go.RowKit L
set_option linter.unusedVariables false
set_option linter.unusedSimpArgs false

/-! a plan that is cut to a size that no valid plan exceeds -/
theorem ch12_rows {ch : Rows2} : ∀ r ∈ ch12 ch, r.length ≤ 140737488351232 := by
  intro r hr
  obtain ⟨x, _, rfl⟩ := List.mem_map.1 hr
  rw [List.length_take]; omega
theorem of_same {st : List Int} {ch : Rows2} {be : List (Int × Int)} (h : VP st ch be) : st.take 12 = st ∧ ch12 ch = ch ∧ be.take 42 = be := by
  have h10 := h.n10
  refine ⟨List.take_of_length_le (by omega), ?_, List.take_of_length_le (by have := h.bel; omega)⟩
  unfold ch12
  rw [List.take_of_length_le (by have := h.chl; omega)]
  refine (List.map_congr_left (g := id) fun r hr => ?_).trans (List.map_id _)
  exact List.take_of_length_le (by have := (costsB_get (h.rws r hr)).1; omega)
theorem of_valid {st : List Int} {ch : Rows2} {be : List (Int × Int)} (h : VP (st.take 12) (ch12 ch) (be.take 42)) : VP st ch be := by
  have h10 := h.n10
  have hl : st.length ≤ 12 := by rw [List.length_take] at h10; omega
  have e1 : st.take 12 = st := List.take_of_length_le hl
  rw [e1] at h
  have hcl := h.chl
  rw [ch12_len] at hcl
  have hcl2 : ch.length = st.length := by have := h.n10; omega
  have hbl := h.bel
  have hb2 : be.length ≤ 42 := by rw [List.length_take] at hbl; omega
  have e3 : be.take 42 = be := List.take_of_length_le hb2
  rw [e3] at h
  refine ⟨h.n1, h.n10, h.cst, hcl2, h.bel, fun r hr => ?_, h.prs⟩
  have hm : r.take 12 ∈ ch12 ch := List.mem_map.2 ⟨r, by rw [List.take_of_length_le (by have := h.n10; omega)]; exact hr, rfl⟩
  have h1 := h.rws _ hm
  have h2 := (costsB_get h1).1
  rw [List.length_take] at h2
  have : r.take 12 = r := List.take_of_length_le (by have := h.n10; omega)
  rw [this] at h1; exact h1
theorem of_validP {st : List Int} {ch : Rows2} {be : List (Int × Int)} : validP (st.take 12) (ch12 ch) (be.take 42) = validP st ch be := by
  rw [Bool.eq_iff_iff, validP_iff, validP_iff]
  exact ⟨of_valid, fun h => by obtain ⟨e1, e2, e3⟩ := of_same h; rw [e1, e2, e3]; exact h⟩
theorem of_any {α : Type} {f : List Int → Rows2 → List (Int × Int) → α} {x : α} {st : List Int} {ch : Rows2} {be : List (Int × Int)} (hf : ∀ st ch be, validP st ch be = false → f st ch be = x) : f (st.take 12) (ch12 ch) (be.take 42) = f st ch be := by
  cases hv : validP st ch be with
  | false => rw [hf _ _ _ hv, hf _ _ _ (by rw [of_validP]; exact hv)]
  | true => obtain ⟨e1, e2, e3⟩ := of_same (validP_iff.1 hv); rw [e1, e2, e3]
theorem cost_of (st : List Int) (ch : Rows2) (be : List (Int × Int)) (os : List Int) : costR (st.take 12) (ch12 ch) (be.take 42) os = costR st ch be os := of_any (f := fun st ch be => costR st ch be os) (x := (0, 2)) fun st ch be h => by rw [costR, if_pos h]
theorem best_of (st : List Int) (ch : Rows2) (be : List (Int × Int)) : bestR (st.take 12) (ch12 ch) (be.take 42) = bestR st ch be := of_any (f := bestR) (x := ([], 2)) fun st ch be h => by rw [bestR, if_pos h]
theorem prices_of (st : List Int) (ch : Rows2) (be : List (Int × Int)) : pricesR (st.take 12) (ch12 ch) (be.take 42) = pricesR st ch be := of_any (f := pricesR) (x := ([], 2)) fun st ch be h => by rw [pricesR, if_pos h]
theorem check_of (st : List Int) (ch : Rows2) (be : List (Int × Int)) (ts : List Int) : checkR (st.take 12) (ch12 ch) (be.take 42) ts = checkR st ch be ts := of_any (f := fun st ch be => checkR st ch be ts) (x := (0, false, 2)) fun st ch be h => by rw [checkR, if_pos h]
theorem Cost_spec (w : World) (A1 A2 A3 : Option Addr) (c1 c2 c3 : Nat) (vs : List Value) (st : List Int) (ch : Rows2) (be : List (Int × Int)) (hl1 : st.length ≤ 140737488351232) (hl2 : ch.length ≤ 140737488351232) (hl3 : be.length ≤ 140737488351232) (hp : PR w A1 A2 A3 vs st ch be) (hlr : ∀ r ∈ ch, r.length ≤ 140737488351232) (AO : Option Addr) (cO : Nat) (os : List Int) (hlo : os.length ≤ 140737488351232) (ho : Rd w AO (I os)) : Calls Tryd.prog 35 #[.agg #[.slice A1 st.length c1, .slice A2 ch.length c2, .slice A3 be.length c3], .slice AO os.length cO] w fun e w' => e = .returned (.tuple #[.int .i64 (costR st ch be os).1, .int .i64 (costR st ch be os).2]) ∧ St w [] w' := by
  cases hv : validP st ch be with
  | false => exact Cost_no w A1 A2 A3 c1 c2 c3 vs st ch be hl1 hl2 hl3 hp hlr hv AO cO os hlo ho
  | true => exact Cost_yes w A1 A2 A3 c1 c2 c3 vs st ch be hl1 hl2 hl3 hp hlr (validP_iff.1 hv) AO cO os hlo ho
theorem RefCost_spec (w : World) (A1 A2 A3 : Option Addr) (c1 c2 c3 : Nat) (vs : List Value) (st : List Int) (ch : Rows2) (be : List (Int × Int)) (hl1 : st.length ≤ 140737488351232) (hl2 : ch.length ≤ 140737488351232) (hl3 : be.length ≤ 140737488351232) (hp : PR w A1 A2 A3 vs st ch be) (hlr : ∀ r ∈ ch, r.length ≤ 140737488351232) (AO : Option Addr) (cO : Nat) (os : List Int) (hlo : os.length ≤ 140737488351232) (ho : Rd w AO (I os)) : Calls Tryd.prog 40 #[.agg #[.slice A1 st.length c1, .slice A2 ch.length c2, .slice A3 be.length c3], .slice AO os.length cO] w fun e w' => e = .returned (.tuple #[.int .i64 (costR st ch be os).1, .int .i64 (costR st ch be os).2]) ∧ St w [] w' := by
  cases hv : validP st ch be with
  | false => exact RefCost_no w A1 A2 A3 c1 c2 c3 vs st ch be hl1 hl2 hl3 hp hlr hv AO cO os hlo ho
  | true => exact RefCost_yes w A1 A2 A3 c1 c2 c3 vs st ch be hl1 hl2 hl3 hp hlr (validP_iff.1 hv) AO cO os hlo ho
theorem bestR_len (st : List Int) (ch : Rows2) (be : List (Int × Int)) : (bestR st ch be).1.length ≤ 140737488351232 := by
  unfold bestR
  split
  · simp
  · split
    · simp
    · rename_i h1 h2
      have hv := validP_iff.1 (show validP st ch be = true by simpa using h1)
      have hp : possible (natB be) st.length = true := by simpa using h2
      have := (best_ok hv.ok hp st.length 0 none (Nat.pow_pos (by decide)) (fun i hi => by cases hi) (by rw [pc_zero]; omega)).2.1
      rw [List.length_map, this]
      have := hv.n10; omega
theorem pricesR_len (st : List Int) (ch : Rows2) (be : List (Int × Int)) : (pricesR st ch be).1.length ≤ 140737488351232 := by
  unfold pricesR
  split
  · simp
  · split
    · simp
    · rename_i h1 h2
      have hv := validP_iff.1 (show validP st ch be = true by simpa using h1)
      rw [priceT, mkT_length]
      have := n2n hv.n10; omega

/-! the laws on orders, plain -/
theorem pc_mono {n s s' : Nat} (h : ∀ k, s.testBit k = true → s'.testBit k = true) : pc n s ≤ pc n s' := by
  unfold pc
  rw [← List.countP_eq_length_filter, ← List.countP_eq_length_filter]
  exact List.countP_mono_left fun x _ hx => h x hx
theorem addAll_sub {B : Pairs} : ∀ (l : List Nat) (s k : Nat), s.testBit k = true → (addAll B l s).testBit k = true
  | [], s, k, h => h
  | j :: l, s, k, h => by
    show (addAll B l (if fol B s j then s ||| 2 ^ j else s)).testBit k = true
    refine addAll_sub l _ k ?_
    split
    · rw [or_bit, h]; rfl
    · exact h
theorem addAll_adds {B : Pairs} {j : Nat} : ∀ (l : List Nat) (s : Nat), j ∈ l → fol B s j = true → (addAll B l s).testBit j = true
  | x :: l, s, hj, hf => by
    show (addAll B l (if fol B s x then s ||| 2 ^ x else s)).testBit j = true
    by_cases e : x = j
    · subst e
      rw [if_pos hf]
      exact addAll_sub l _ _ (by rw [or_bit]; simp)
    · have hj' : j ∈ l := by
        rcases List.mem_cons.1 hj with h | h
        · exact (e h.symm).elim
        · exact h
      split
      · refine addAll_adds l _ hj' (fol_sub hf (fun k hk => by rw [or_bit, hk]; rfl) ?_)
        rw [or_bit, fol_not hf, decide_eq_false e]; rfl
      · exact addAll_adds l _ hj' hf
theorem pos_grow {B : Pairs} {n : Nat} : ∀ (k : Nat), (∀ j, j < n → fol B (posSet B n k) j = false) ∨ k ≤ pc n (posSet B n k)
  | 0 => .inr (Nat.zero_le _)
  | k + 1 => by
    by_cases h : ∀ j, j < n → fol B (posSet B n k) j = false
    · left
      have e : posSet B n (k + 1) = posSet B n k := by
        have key : ∀ (l : List Nat), (∀ j ∈ l, j < n) → addAll B l (posSet B n k) = posSet B n k := by
          intro l
          induction l with
          | nil => intro _; rfl
          | cons x l ih =>
            intro hl
            show addAll B l (if fol B (posSet B n k) x then _ else _) = _
            rw [h x (hl x (by simp)), if_neg (by simp)]
            exact ih fun j hj => hl j (by simp [hj])
        exact key _ fun j hj => List.mem_range.1 hj
      rw [e]; exact h
    · right
      obtain ⟨j, hj⟩ := Classical.not_forall.1 h
      obtain ⟨hj, hf⟩ := Classical.not_imp.1 hj
      have hf : fol B (posSet B n k) j = true := by simpa using hf
      rcases pos_grow (B := B) (n := n) k with hh | hh
      · rw [hh j hj] at hf; simp at hf
      · have h1 := pc_or (n := n) hj (fol_not hf)
        have h2 : pc n (posSet B n k ||| 2 ^ j) ≤ pc n (posSet B n (k + 1)) := pc_mono fun i hi => by
          rw [or_bit, Bool.or_eq_true, decide_eq_true_eq] at hi
          rcases hi with hi | rfl
          · exact addAll_sub _ _ _ hi
          · exact addAll_adds _ _ (List.mem_range.2 hj) hf
        omega
theorem order_in {B : Pairs} {n S : Nat} (hno : ∀ j, j < n → fol B S j = false) : ∀ (l : List Nat) (s : Nat), okO n B s l = true → (∀ k, s.testBit k = true → S.testBit k = true) → ∀ k, (endO s l).testBit k = true → S.testBit k = true
  | [], s, _, h => h
  | j :: l, s, ho, h => by
    simp only [okO, Bool.and_eq_true, decide_eq_true_eq] at ho
    refine order_in hno l _ ho.2 fun k hk => ?_
    rw [or_bit, Bool.or_eq_true, decide_eq_true_eq] at hk
    rcases hk with hk | rfl
    · exact h k hk
    · cases hS : S.testBit j with
      | true => rfl
      | false => have := fol_sub ho.1.2 h hS; rw [hno j ho.1.1] at this; simp at this
theorem order_possible {B : Pairs} {n : Nat} {l : List Nat} (h : okO n B 0 l = true) (hl : l.length = n) : possible B n = true := by
  have hlt := posSet_lt (B := B) (n := n) n
  refine decide_eq_true ?_
  rcases pos_grow (B := B) (n := n) n with hh | hh
  · have h1 := okO_pc l 0 (Nat.pow_pos (by decide)) h
    rw [pc_zero] at h1
    have hf := (pc_full h1.2).1 (by omega)
    have h2 := order_in hh l 0 h (fun k hk => by rw [Nat.zero_testBit] at hk; simp at hk)
    refine Nat.eq_of_testBit_eq fun i => ?_
    rw [full_bit]
    by_cases hi : i < n
    · rw [decide_eq_true hi]; exact h2 i (by rw [hf, full_bit, decide_eq_true hi])
    · rw [decide_eq_false hi]; exact Nat.testBit_lt_two_pow (Nat.lt_of_lt_of_le hlt (Nat.pow_le_pow_right (by decide) (by omega)))
  · have := pc_le n (posSet B n n)
    exact (pc_full hlt).1 (by omega)
theorem cost_ok {st : List Int} {ch : Rows2} {be : List (Int × Int)} {os : List Int} (h : (costR st ch be os).2 = 0) : VP st ch be ∧ ordB st.length (natB be) os = true ∧ (costR st ch be os).1 = sumO st ch none (ns os) := by
  unfold costR at h ⊢
  split at h
  · simp at h
  · split at h
    · rename_i h1 h2
      rw [if_neg h1, if_pos h2]
      exact ⟨validP_iff.1 (by simpa using h1), h2, rfl⟩
    · simp at h
theorem best_err {st : List Int} {ch : Rows2} {be : List (Int × Int)} (h : (bestR st ch be).2 ≠ 0) : ((bestR st ch be).2 = 2 ∨ (bestR st ch be).2 = 7) ∧ ∀ os, (costR st ch be os).2 ≠ 0 := by
  unfold bestR at h ⊢
  split
  · rename_i h1
    exact ⟨.inl rfl, fun os => by rw [costR, if_pos h1]; decide⟩
  · split
    · rename_i h1 h2
      refine ⟨.inr rfl, fun os hc => ?_⟩
      obtain ⟨_, ho, _⟩ := cost_ok hc
      obtain ⟨hl, _, ho2⟩ := ordB_parts ho
      have := order_possible ho2 (by rw [ns_length]; exact hl)
      rw [h2] at this; simp at this
    · rename_i h1 h2
      rw [if_neg h1, if_neg h2] at h
      exact (h rfl).elim
theorem best_good {st : List Int} {ch : Rows2} {be : List (Int × Int)} (h : (bestR st ch be).2 = 0) : VP st ch be ∧ possible (natB be) st.length = true ∧ (bestR st ch be).1 = (bestO st.length st ch (natB be) st.length 0 none).map Int.ofNat := by
  unfold bestR at h ⊢
  split at h
  · simp at h
  · split at h
    · simp at h
    · rename_i h1 h2
      rw [if_neg h1, if_neg h2]
      exact ⟨validP_iff.1 (by simpa using h1), by simpa using h2, rfl⟩
theorem ns_ofN (l : List Nat) : ns (l.map Int.ofNat) = l := by
  unfold ns; rw [List.map_map]
  exact (List.map_congr_left (g := id) fun x _ => by simp).trans (List.map_id _)
theorem ordB_ofN {n : Nat} {B : Pairs} {l : List Nat} (h : okO n B 0 l = true) (hl : l.length = n) : ordB n B (l.map Int.ofNat) = true := by
  have h1 : inR n (l.map Int.ofNat) = true := List.all_eq_true.2 fun x hx => by
    obtain ⟨y, hy, rfl⟩ := List.mem_map.1 hx
    have := okO_lt l 0 h y hy
    simp only [Bool.and_eq_true, decide_eq_true_eq]
    exact ⟨Int.natCast_nonneg y, Int.ofNat_lt.2 this⟩
  rw [ordB, ns_ofN, h, h1, List.length_map, decide_eq_true hl]; rfl
theorem best_ok0 {st : List Int} {ch : Rows2} {be : List (Int × Int)} (hv : VP st ch be) (hp : possible (natB be) st.length = true) :
    okO st.length (natB be) 0 (bestO st.length st ch (natB be) st.length 0 none) = true ∧ (bestO st.length st ch (natB be) st.length 0 none).length = st.length ∧ sumO st ch none (bestO st.length st ch (natB be) st.length 0 none) = rest st.length st ch (natB be) 0 none ∧
    ∀ l, okO st.length (natB be) 0 l = true → l.length = st.length → sumO st ch none (bestO st.length st ch (natB be) st.length 0 none) ≤ sumO st ch none l ∧ (sumO st ch none (bestO st.length st ch (natB be) st.length 0 none) = sumO st ch none l → cmpN (bestO st.length st ch (natB be) st.length 0 none) l ≤ 0) := by
  have h := best_ok hv.ok hp st.length 0 none (Nat.pow_pos (by decide)) (fun i hi => by cases hi) (by rw [pc_zero]; omega)
  exact ⟨h.1, h.2.1, h.2.2.1 hv.n1, h.2.2.2⟩
theorem best_cost {st : List Int} {ch : Rows2} {be : List (Int × Int)} (h : (bestR st ch be).2 = 0) : costR st ch be (bestR st ch be).1 = (rest st.length st ch (natB be) 0 none, 0) := by
  obtain ⟨hv, hp, he⟩ := best_good h
  obtain ⟨h1, h2, h3, _⟩ := best_ok0 hv hp
  rw [he, costR, if_neg (by rw [validP_iff.2 hv]; simp), if_pos (ordB_ofN h1 h2), ns_ofN, h3]
theorem cmp_same : ∀ (l r : List Nat), cmpI (l.map Int.ofNat) (r.map Int.ofNat) = cmpN l r
  | [], [] => rfl
  | [], _ :: _ => rfl
  | _ :: _, [] => rfl
  | a :: l, b :: r => by
    simp only [List.map_cons, cmpI, cmpN, cmp_same l r, Int.ofNat_eq_natCast, Int.ofNat_lt]
theorem in_ofN {n : Nat} : ∀ {os : List Int}, (∀ i, i < os.length → 0 ≤ os.getD i 0 ∧ os.getD i 0 < n) → (ns os).map Int.ofNat = os
  | [], _ => rfl
  | x :: os, h => by
    have h0 := h 0 (by simp)
    have ih := in_ofN (os := os) (n := n) fun i hi => by have := h (i + 1) (by simpa using hi); simpa using this
    show Int.ofNat x.toNat :: (ns os).map Int.ofNat = x :: os
    rw [ih]
    congr 1
    simp at h0
    exact Int.toNat_of_nonneg h0.1
theorem best_first {st : List Int} {ch : Rows2} {be : List (Int × Int)} {os : List Int} (h : (bestR st ch be).2 = 0) (hc : (costR st ch be os).2 = 0) : (costR st ch be (bestR st ch be).1).1 ≤ (costR st ch be os).1 ∧ ((costR st ch be (bestR st ch be).1).1 = (costR st ch be os).1 → cmpI (bestR st ch be).1 os ≤ 0) := by
  obtain ⟨hv, hp, he⟩ := best_good h
  obtain ⟨h1, h2, h3, h4⟩ := best_ok0 hv hp
  obtain ⟨_, ho, hs⟩ := cost_ok hc
  obtain ⟨hl, hr, ho2⟩ := ordB_parts ho
  obtain ⟨h5, h6⟩ := h4 (ns os) ho2 (by rw [ns_length]; exact hl)
  rw [best_cost h, hs]
  refine ⟨by dsimp only; omega, fun e => ?_⟩
  have := h6 (by dsimp only at e; omega)
  rw [he, ← in_ofN hr, cmp_same]; exact this
theorem prices_err {st : List Int} {ch : Rows2} {be : List (Int × Int)} (h : (pricesR st ch be).2 ≠ 0) : (pricesR st ch be).2 = 2 ∨ (pricesR st ch be).2 = 7 := by
  unfold pricesR at h ⊢
  split
  · exact .inl rfl
  · split
    · exact .inr rfl
    · rename_i h1 h2
      rw [if_neg h1, if_neg h2] at h
      exact (h rfl).elim
theorem prices_good {st : List Int} {ch : Rows2} {be : List (Int × Int)} (h : (pricesR st ch be).2 = 0) : (bestR st ch be).2 = 0 ∧ checkR st ch be (pricesR st ch be).1 = (rest st.length st ch (natB be) 0 none, true, 0) := by
  unfold pricesR at h ⊢
  split at h
  · simp at h
  · split at h
    · simp at h
    · rename_i h1 h2
      have hv := validP_iff.1 (show validP st ch be = true by simpa using h1)
      have hp : possible (natB be) st.length = true := by simpa using h2
      rw [if_neg h1, if_neg h2]
      refine ⟨by rw [bestR, if_neg h1, if_neg h2], ?_⟩
      have ho : (priceT st.length ch (natB be)).any out = false := by
        refine List.any_eq_false.2 fun z hz => ?_
        obtain ⟨i, hi, rfl⟩ := List.mem_iff_getElem.1 hz
        have hb := price_bd (B := natB be) hv.ok.change i
        have e : (priceT st.length ch (natB be)).getD i 0 = (priceT st.length ch (natB be))[i] := by simp [hi]
        rw [e] at hb
        simp [out]; omega
      rw [checkR_5 hv (by rw [priceT, mkT_length]; simp) ho hp, least_price, soundB_P.2 price_sound]
theorem check_good {st : List Int} {ch : Rows2} {be : List (Int × Int)} {ts : List Int} (h : (checkR st ch be ts).2.2 = 0) (hs : (checkR st ch be ts).2.1 = true) : (bestR st ch be).2 = 0 ∧ (checkR st ch be ts).1 ≤ (costR st ch be (bestR st ch be).1).1 ∧ ∀ os, (costR st ch be os).2 = 0 → (checkR st ch be ts).1 ≤ (costR st ch be os).1 := by
  unfold checkR at h hs ⊢
  split at h
  · simp at h
  · split at h
    · simp at h
    · split at h
      · simp at h
      · split at h
        · simp at h
        · rename_i h1 h2 h3 h4
          have hv := validP_iff.1 (show validP st ch be = true by simpa using h1)
          have hp : possible (natB be) st.length = true := by simpa using h4
          rw [if_neg h1, if_neg h2, if_neg h3, if_neg h4] at hs ⊢
          have hS := soundB_P.1 hs
          have hb : (bestR st ch be).2 = 0 := by rw [bestR, if_neg h1, if_neg h4]
          have key : ∀ os, (costR st ch be os).2 = 0 → leastP st.length st (natB be) ts ≤ (costR st ch be os).1 := by
            intro os hc
            obtain ⟨_, ho, hsum⟩ := cost_ok hc
            obtain ⟨hl, _, ho2⟩ := ordB_parts ho
            rw [hsum]
            exact least_bound hS ho2 (by rw [ns_length]; exact hl) hv.n1
          exact ⟨hb, key _ (by rw [best_cost hb]), key⟩

theorem orders_spec (w : World) (A1 A2 A3 : Option Addr) (c1 c2 c3 : Nat) (vs : List Value) (st : List Int) (ch : Rows2) (be : List (Int × Int)) (hl1 : st.length ≤ 140737488351232) (hl2 : ch.length ≤ 140737488351232) (hl3 : be.length ≤ 140737488351232) (hp : PR w A1 A2 A3 vs st ch be) (hlr : ∀ r ∈ ch, r.length ≤ 140737488351232) (hc1 : st.length ≤ c1) (hcr : ∀ (i : Nat) (A : Option Addr) (l c : Nat), vs[i]? = some (Value.slice A l c) → l ≤ c) (AO : Option Addr) (cO : Nat) (os : List Int) (hlo : os.length ≤ 140737488351232) (ho : Rd w AO (I os)) : Calls Tryd.prog 11 #[.agg #[.slice A1 st.length c1, .slice A2 ch.length c2, .slice A3 be.length c3], .slice AO os.length cO] w fun e w' => e = .returned (.bool true) ∧ St w [] w' := by
  refine calls (args := [.agg #[.slice A1 st.length c1, .slice A2 ch.length c2, .slice A3 be.length c3], .slice AO os.length cO]) Tryd.func11 rfl Tryd.ntmps11 (Nat.le_of_ble_eq_true rfl) (St.refl w) ?_
  refine J_seq ?_
  refine J_region ?_
  refine V_box (.n _) rfl rfl rfl (fun _ => trivial) (fun b2 => ?_)   -- 0.0
  refine V_asg (.n _) rfl rfl ?_   -- 0.1
  refine V_sub [(0, _), (1, _), (2, _), (4, _)] ⟨rfl, rfl, rfl, rfl, trivial⟩ ?_
  refine V_nil (.inl rfl) ?_
  refine E_then ?_
  refine J_seq ?_
  refine J_region ?_
  refine V_ldN (.n _) Tryd.isAgg48 Tryd.sizeOf48 rfl (by repeat (first | exact List.Mem.head _ | assumption | apply List.Mem.tail | apply List.mem_append_right)) (by rfl) rfl rfl ?_   -- 1.0
  refine V_call (post := fun v D => ∃ A1' c1' A2' c2' A3' c3' vs', v = .agg #[.slice A1' (st.take 12).length c1', .slice A2' (ch12 ch).length c2', .slice A3' (be.take 42).length c3'] ∧ PRds D A1' A2' A3' vs' (st.take 12) (ch12 ch) (be.take 42)) (.n _) Tryd.call32 (.cons rfl .nil) (fun w1 hw1 => of_spec w1 A1 A2 A3 c1 c2 c3 vs st ch be hl1 hl2 hl3 (hp.keep hw1) hc1 hcr) rfl trivial ?_
  rintro _ Dx ⟨a1x, k1x, a2x, k2x, a3x, k3x, usx, rfl, hPx⟩
  refine V_mov (.n _) rfl rfl ?_   -- 1.2
  refine V_call0 (v := .tuple #[.int .i64 (costR st ch be os).1, .int .i64 (costR st ch be os).2]) (.n _) Tryd.call35 (.cons rfl (.cons rfl .nil)) (fun w1 hw1 => by
  have h := Cost_spec w1 a1x a2x a3x k1x k2x k3x usx (st.take 12) (ch12 ch) (be.take 42) (by rw [List.length_take]; omega) (by rw [ch12_len]; omega) (by rw [List.length_take]; omega) (hPx.at hw1 (by intro x hx; simp [hx])) ch12_rows AO cO os hlo (ho.keep hw1)
  rw [cost_of] at h
  exact h) rfl trivial ?_
  refine V_mov (.n _) rfl rfl ?_   -- 1.4
  refine V_ext (.n _) rfl rfl rfl ?_   -- 1.5
  refine V_ext (.n _) rfl rfl rfl ?_   -- 1.6
  refine V_asg (.n _) rfl rfl ?_   -- 1.7
  refine V_asg (.n _) rfl rfl ?_   -- 1.8
  refine V_sub [(0, _), (1, _), (2, _), (4, _), (5, _), (6, _)] ⟨rfl, rfl, rfl, rfl, rfl, rfl, trivial⟩ ?_
  refine V_nil (.inl rfl) ?_
  refine E_then ?_
  refine J_seq ?_
  refine J_region ?_
  refine V_ldN (.n _) Tryd.isAgg48 Tryd.sizeOf48 rfl (by repeat (first | exact List.Mem.head _ | assumption | apply List.Mem.tail | apply List.mem_append_right)) (by rfl) rfl rfl ?_   -- 2.0
  refine V_mov (.n _) rfl rfl ?_   -- 2.1
  refine V_call0 (.n _) Tryd.call40 (.cons rfl (.cons rfl .nil)) (fun w1 hw1 => RefCost_spec w1 A1 A2 A3 c1 c2 c3 vs st ch be hl1 hl2 hl3 (hp.keep hw1) hlr AO cO os hlo (ho.keep hw1)) rfl trivial ?_   -- 2.2
  refine V_mov (.n _) rfl rfl ?_   -- 2.3
  refine V_ext (.n _) rfl rfl rfl ?_   -- 2.4
  refine V_ext (.n _) rfl rfl rfl ?_   -- 2.5
  refine V_asg (.n _) rfl rfl ?_   -- 2.6
  refine V_asg (.n _) rfl rfl ?_   -- 2.7
  refine V_sub [(0, _), (1, _), (2, _), (4, _), (5, _), (6, _), (7, _), (8, _)] ⟨rfl, rfl, rfl, rfl, rfl, rfl, rfl, rfl, trivial⟩ ?_
  refine V_nil (.inl rfl) ?_
  refine E_then ?_
  refine J_seq ?_
  refine J_region ?_
  refine V_ldN (.n _) Tryd.isAgg48 Tryd.sizeOf48 rfl (by repeat (first | exact List.Mem.head _ | assumption | apply List.Mem.tail | apply List.mem_append_right)) (by rfl) rfl rfl ?_   -- 3.0
  refine V_call (post := fun v D => ∃ A1' c1' A2' c2' A3' c3' vs', v = .agg #[.slice A1' (st.take 12).length c1', .slice A2' (ch12 ch).length c2', .slice A3' (be.take 42).length c3'] ∧ PRds D A1' A2' A3' vs' (st.take 12) (ch12 ch) (be.take 42)) (.n _) Tryd.call32 (.cons rfl .nil) (fun w1 hw1 => of_spec w1 A1 A2 A3 c1 c2 c3 vs st ch be hl1 hl2 hl3 (hp.keep hw1) hc1 hcr) rfl trivial ?_
  rintro _ Dy ⟨a1y, k1y, a2y, k2y, a3y, k3y, usy, rfl, hPy⟩
  refine V_call (post := fun v D => ∃ A c, v = .tuple #[.slice A (bestR st ch be).1.length c, .int .i64 (bestR st ch be).2] ∧ Rds D A (I (bestR st ch be).1)) (.n _) Tryd.call31 (.cons rfl .nil) (fun w1 hw1 => by
    have h := Best_spec w1 a1y a2y a3y k1y k2y k3y usy (st.take 12) (ch12 ch) (be.take 42) (by rw [List.length_take]; omega) (by rw [ch12_len]; omega) (by rw [List.length_take]; omega) (hPy.at hw1 (by intro x hx; simp [hx])) ch12_rows
    rw [best_of] at h
    exact h.mono fun e w2 ⟨A, c, D, he, hD, hR⟩ => ⟨_, D, he, hD, A, c, rfl, hR⟩) rfl trivial ?_
  rintro _ Ep ⟨bap, bcp, rfl, hBp⟩
  refine V_mov (.n _) rfl rfl ?_   -- 3.3
  refine V_ext (.n _) rfl rfl rfl ?_   -- 3.4
  refine V_ext (.n _) rfl rfl rfl ?_   -- 3.5
  refine V_asg (.n _) rfl rfl ?_   -- 3.6
  refine V_asg (.n _) rfl rfl ?_   -- 3.7
  refine V_sub [(0, _), (1, _), (2, _), (4, _), (5, _), (6, _), (7, _), (8, _), (9, _), (10, _)] ⟨rfl, rfl, rfl, rfl, rfl, rfl, rfl, rfl, rfl, rfl, trivial⟩ ?_
  refine V_nil (.inl rfl) ?_
  refine E_then ?_
  refine J_seq ?_
  refine J_region ?_
  refine V_ldN (.n _) Tryd.isAgg48 Tryd.sizeOf48 rfl (by repeat (first | exact List.Mem.head _ | assumption | apply List.Mem.tail | apply List.mem_append_right)) (by rfl) rfl rfl ?_   -- 4.0
  refine V_call (post := fun v D => ∃ A c, v = .tuple #[.slice A (bestR st ch be).1.length c, .int .i64 (bestR st ch be).2] ∧ Rds D A (I (bestR st ch be).1)) (.n _) Tryd.call41 (.cons rfl .nil) (fun w1 hw1 => (RBest_spec w1 A1 A2 A3 c1 c2 c3 vs st ch be hl1 hl2 hl3 (hp.keep hw1) hlr).mono fun e w2 ⟨A, c, D, he, hD, hR⟩ => ⟨_, D, he, hD, A, c, rfl, hR⟩) rfl trivial ?_
  rintro _ Eq ⟨baq, bcq, rfl, hBq⟩
  refine V_mov (.n _) rfl rfl ?_   -- 4.2
  refine V_ext (.n _) rfl rfl rfl ?_   -- 4.3
  refine V_ext (.n _) rfl rfl rfl ?_   -- 4.4
  refine V_asg (.n _) rfl rfl ?_   -- 4.5
  refine V_asg (.n _) rfl rfl ?_   -- 4.6
  refine V_sub [(0, _), (1, _), (2, _), (4, _), (5, _), (6, _), (7, _), (8, _), (9, _), (10, _), (11, _), (12, _)] ⟨rfl, rfl, rfl, rfl, rfl, rfl, rfl, rfl, rfl, rfl, rfl, rfl, trivial⟩ ?_
  refine V_nil (.inl rfl) ?_
  refine E_then ?_
  refine J_seq ?_
  refine J_region ?_
  refine V_mov (.n _) rfl rfl ?_   -- 5.0
  refine V_mov (.n _) rfl rfl ?_   -- 5.1
  refine V_eql (.n _) rfl rfl rfl ?_   -- 5.2
  refine V_mov (.n _) rfl rfl ?_   -- 5.3
  refine V_split 40 rfl (fun h1 => ?_) (fun h1 => ?_)   -- guard 5.3
  · skip
    refine V_go (3, true) rfl ?_
    refine V_mov (.n _) rfl rfl ?_   -- 5.4
    refine V_go (3, true) rfl ?_
    refine V_mov (.n _) rfl rfl ?_   -- 5.5
    refine V_go (3, true) rfl ?_
    refine V_eql (.n _) rfl rfl rfl ?_   -- 5.6
    refine V_pickT (.n _) rfl rfl rfl ?_   -- 5.7
    refine V_mov (.n _) rfl rfl ?_   -- 5.8
    refine V_split 45 rfl (fun h2 => ?_) (fun h2 => ?_)   -- guard 5.8
    · skip
      refine V_go (8, true) rfl ?_
      refine V_mov (.n _) rfl rfl ?_   -- 5.9
      refine V_go (8, true) rfl ?_
      refine V_mov (.n _) rfl rfl ?_   -- 5.10
      refine V_go (8, true) rfl ?_
      refine V_call0 (v := .bool true) (.n _) Tryd.call25 (.cons rfl (.cons rfl .nil)) (fun w1 hw1 => by
      have h := equal_spec w1 bap baq bcp bcq (bestR st ch be).1 (bestR st ch be).1 (bestR_len st ch be) (bestR_len st ch be) (hBp.of hw1 (by intro x hx; simp [hx])) (hBq.of hw1 (by intro x hx; simp [hx]))
      rw [decide_eq_true rfl] at h
      exact h) rfl trivial ?_
      refine V_pickT (.n _) rfl rfl rfl ?_   -- 5.12
      refine V_mov (.n _) rfl rfl ?_   -- 5.13
      refine V_go (13, true) rfl ?_
      refine V_mov (.n _) rfl rfl ?_   -- 5.14
      refine V_go (13, true) rfl ?_
      refine V_mov (.n _) rfl rfl ?_   -- 5.15
      refine V_go (13, true) rfl ?_
      refine V_eql (.n _) rfl rfl rfl ?_   -- 5.16
      refine V_pickT (.n _) rfl rfl rfl ?_   -- 5.17
      refine V_mov (.n _) rfl rfl ?_   -- 5.18
      refine V_split 55 rfl (fun h3 => ?_) (fun h3 => ?_)   -- guard 5.18
      · skip
        refine V_go (18, true) rfl ?_
        refine V_call0 (.n _) Tryd.call17 .nil (fun w1 hw1 => awake_spec w1) rfl trivial ?_   -- 5.19
        refine V_pickT (.n _) rfl rfl rfl ?_   -- 5.20
        refine V_asg (.n _) rfl rfl ?_   -- 5.21
        refine V_sub [(0, _), (1, _), (2, _), (4, _), (5, _), (6, _), (7, _), (8, _), (9, _), (10, _), (11, _), (12, _)] ⟨rfl, rfl, rfl, rfl, rfl, rfl, rfl, rfl, rfl, rfl, rfl, rfl, trivial⟩ ?_
        refine V_nil (.inl rfl) ?_
        refine E_then ?_
        refine J_ret ?_
        -- return R0
        refine E_ret1 Tryd.results11 rfl (fun w hw => ?_)
        exact ⟨by first | rfl | rw [decide_eq_true rfl], hw.sub (fun x hx => by simp at hx) (by simp [keys])⟩
      · exact absurd rfl h3
    · exact absurd rfl h2
  · exact absurd rfl h1

theorem priceslaw_spec (w : World) (A1 A2 A3 : Option Addr) (c1 c2 c3 : Nat) (vs : List Value) (st : List Int) (ch : Rows2) (be : List (Int × Int)) (hl1 : st.length ≤ 140737488351232) (hl2 : ch.length ≤ 140737488351232) (hl3 : be.length ≤ 140737488351232) (hp : PR w A1 A2 A3 vs st ch be) (hlr : ∀ r ∈ ch, r.length ≤ 140737488351232) (hc1 : st.length ≤ c1) (hcr : ∀ (i : Nat) (A : Option Addr) (l c : Nat), vs[i]? = some (Value.slice A l c) → l ≤ c) (AT : Option Addr) (cT : Nat) (ts : List Int) (hlt : ts.length ≤ 140737488351232) (ht : Rd w AT (I ts)) : Calls Tryd.prog 10 #[.agg #[.slice A1 st.length c1, .slice A2 ch.length c2, .slice A3 be.length c3], .slice AT ts.length cT] w fun e w' => e = .returned (.bool true) ∧ St w [] w' := by
  refine calls (args := [.agg #[.slice A1 st.length c1, .slice A2 ch.length c2, .slice A3 be.length c3], .slice AT ts.length cT]) Tryd.func10 rfl Tryd.ntmps10 (Nat.le_of_ble_eq_true rfl) (St.refl w) ?_
  refine J_seq ?_
  refine J_region ?_
  refine V_box (.n _) rfl rfl rfl (fun _ => trivial) (fun b2 => ?_)   -- 0.0
  refine V_asg (.n _) rfl rfl ?_   -- 0.1
  refine V_sub [(0, _), (1, _), (2, _), (4, _)] ⟨rfl, rfl, rfl, rfl, trivial⟩ ?_
  refine V_nil (.inl rfl) ?_
  refine E_then ?_
  refine J_seq ?_
  refine J_region ?_
  refine V_ldN (.n _) Tryd.isAgg48 Tryd.sizeOf48 rfl (by repeat (first | exact List.Mem.head _ | assumption | apply List.Mem.tail | apply List.mem_append_right)) (by rfl) rfl rfl ?_   -- 1.0
  refine V_call (post := fun v D => ∃ A1' c1' A2' c2' A3' c3' vs', v = .agg #[.slice A1' (st.take 12).length c1', .slice A2' (ch12 ch).length c2', .slice A3' (be.take 42).length c3'] ∧ PRds D A1' A2' A3' vs' (st.take 12) (ch12 ch) (be.take 42)) (.n _) Tryd.call32 (.cons rfl .nil) (fun w1 hw1 => of_spec w1 A1 A2 A3 c1 c2 c3 vs st ch be hl1 hl2 hl3 (hp.keep hw1) hc1 hcr) rfl trivial ?_
  rintro _ Dx ⟨a1x, k1x, a2x, k2x, a3x, k3x, usx, rfl, hPx⟩
  refine V_call (post := fun v D => ∃ A c, v = .tuple #[.slice A (pricesR st ch be).1.length c, .int .i64 (pricesR st ch be).2] ∧ Rds D A (I (pricesR st ch be).1)) (.n _) Tryd.call36 (.cons rfl .nil) (fun w1 hw1 => by
    have h := Prices_spec w1 a1x a2x a3x k1x k2x k3x usx (st.take 12) (ch12 ch) (be.take 42) (by rw [List.length_take]; omega) (by rw [ch12_len]; omega) (by rw [List.length_take]; omega) (hPx.at hw1 (by intro x hx; simp [hx])) ch12_rows
    rw [prices_of] at h
    exact h.mono fun e w2 ⟨A, c, D, he, hD, hR⟩ => ⟨_, D, he, hD, A, c, rfl, hR⟩) rfl trivial ?_
  rintro _ Ep ⟨bap, bcp, rfl, hBp⟩
  refine V_mov (.n _) rfl rfl ?_   -- 1.3
  refine V_ext (.n _) rfl rfl rfl ?_   -- 1.4
  refine V_ext (.n _) rfl rfl rfl ?_   -- 1.5
  refine V_asg (.n _) rfl rfl ?_   -- 1.6
  refine V_asg (.n _) rfl rfl ?_   -- 1.7
  refine V_sub [(0, _), (1, _), (2, _), (4, _), (5, _), (6, _)] ⟨rfl, rfl, rfl, rfl, rfl, rfl, trivial⟩ ?_
  refine V_nil (.inl rfl) ?_
  refine E_then ?_
  refine J_seq ?_
  refine J_region ?_
  refine V_ldN (.n _) Tryd.isAgg48 Tryd.sizeOf48 rfl (by repeat (first | exact List.Mem.head _ | assumption | apply List.Mem.tail | apply List.mem_append_right)) (by rfl) rfl rfl ?_   -- 2.0
  refine V_call (post := fun v D => ∃ A c, v = .tuple #[.slice A (pricesR st ch be).1.length c, .int .i64 (pricesR st ch be).2] ∧ Rds D A (I (pricesR st ch be).1)) (.n _) Tryd.call37 (.cons rfl .nil) (fun w1 hw1 => (RPrices_spec w1 A1 A2 A3 c1 c2 c3 vs st ch be hl1 hl2 hl3 (hp.keep hw1) hlr).mono fun e w2 ⟨A, c, D, he, hD, hR⟩ => ⟨_, D, he, hD, A, c, rfl, hR⟩) rfl trivial ?_
  rintro _ Eq ⟨baq, bcq, rfl, hBq⟩
  refine V_mov (.n _) rfl rfl ?_   -- 2.2
  refine V_ext (.n _) rfl rfl rfl ?_   -- 2.3
  refine V_ext (.n _) rfl rfl rfl ?_   -- 2.4
  refine V_asg (.n _) rfl rfl ?_   -- 2.5
  refine V_asg (.n _) rfl rfl ?_   -- 2.6
  refine V_sub [(0, _), (1, _), (2, _), (4, _), (5, _), (6, _), (7, _), (8, _)] ⟨rfl, rfl, rfl, rfl, rfl, rfl, rfl, rfl, trivial⟩ ?_
  refine V_nil (.inl rfl) ?_
  refine E_then ?_
  refine J_seq ?_
  refine J_seq ?_
  refine J_region ?_
  refine V_mov (.n _) rfl rfl ?_   -- 3.0
  refine V_mov (.n _) rfl rfl ?_   -- 3.1
  refine V_call0 (v := .bool true) (.n _) Tryd.call25 (.cons rfl (.cons rfl .nil)) (fun w1 hw1 => by
  have h := equal_spec w1 bap baq bcp bcq (pricesR st ch be).1 (pricesR st ch be).1 (pricesR_len st ch be) (pricesR_len st ch be) (hBp.of hw1 (by intro x hx; simp [hx])) (hBq.of hw1 (by intro x hx; simp [hx]))
  rw [decide_eq_true rfl] at h
  exact h) rfl trivial ?_
  refine V_notB (.n _) rfl rfl ?_   -- 3.3
  refine V_mov (.n _) rfl rfl ?_   -- 3.4
  refine V_go (4, false) rfl ?_
  refine V_mov (.n _) rfl rfl ?_   -- 3.5
  refine V_go (4, false) rfl ?_
  refine V_mov (.n _) rfl rfl ?_   -- 3.6
  refine V_go (4, false) rfl ?_
  refine V_neq (.n _) rfl rfl rfl ?_   -- 3.7
  refine V_pickF (.n _) rfl rfl rfl ?_   -- 3.8
  refine V_mov (.n _) rfl rfl ?_   -- 3.9
  refine V_split 33 rfl (fun h1 => ?_) (fun h1 => ?_)   -- guard 3.9
  · exact absurd rfl h1
  · skip
    refine V_go (9, false) rfl ?_
    refine V_call0 (.n _) Tryd.call17 .nil (fun w1 hw1 => awake_spec w1) rfl trivial ?_   -- 3.10
    refine V_go (9, false) rfl ?_
    refine V_notB (.n _) rfl rfl ?_   -- 3.11
    refine V_pickF (.n _) rfl rfl rfl ?_   -- 3.12
    refine V_sub [(0, _), (1, _), (2, _), (4, _), (5, _), (6, _), (7, _), (8, _), (36, _)] ⟨rfl, rfl, rfl, rfl, rfl, rfl, rfl, rfl, rfl, trivial⟩ ?_
    refine V_nil (.inl rfl) ?_
    refine E_then ?_
    refine J_condF rfl ?_
    refine J_skip ?_
    refine E_then ?_
    refine J_seq ?_
    refine J_region ?_
    refine V_ldN (.n _) Tryd.isAgg48 Tryd.sizeOf48 rfl (by repeat (first | exact List.Mem.head _ | assumption | apply List.Mem.tail | apply List.mem_append_right)) (by rfl) rfl rfl ?_   -- 5.0
    refine V_call (post := fun v D => ∃ A1' c1' A2' c2' A3' c3' vs', v = .agg #[.slice A1' (st.take 12).length c1', .slice A2' (ch12 ch).length c2', .slice A3' (be.take 42).length c3'] ∧ PRds D A1' A2' A3' vs' (st.take 12) (ch12 ch) (be.take 42)) (.n _) Tryd.call32 (.cons rfl .nil) (fun w1 hw1 => of_spec w1 A1 A2 A3 c1 c2 c3 vs st ch be hl1 hl2 hl3 (hp.keep hw1) hc1 hcr) rfl trivial ?_
    rintro _ Dy ⟨a1y, k1y, a2y, k2y, a3y, k3y, usy, rfl, hPy⟩
    refine V_mov (.n _) rfl rfl ?_   -- 5.2
    refine V_call0 (v := .tuple #[.int .i64 (checkR st ch be ts).1, .bool (checkR st ch be ts).2.1, .int .i64 (checkR st ch be ts).2.2]) (.n _) Tryd.call38 (.cons rfl (.cons rfl .nil)) (fun w1 hw1 => by
    have h := Check_spec w1 a1y a2y a3y k1y k2y k3y usy (st.take 12) (ch12 ch) (be.take 42) (by rw [List.length_take]; omega) (by rw [ch12_len]; omega) (by rw [List.length_take]; omega) (hPy.at hw1 (by intro x hx; simp [hx])) ch12_rows AT cT ts hlt (ht.keep hw1)
    rw [check_of] at h
    exact h) rfl trivial ?_
    refine V_mov (.n _) rfl rfl ?_   -- 5.4
    refine V_ext (.n _) rfl rfl rfl ?_   -- 5.5
    refine V_ext (.n _) rfl rfl rfl ?_   -- 5.6
    refine V_ext (.n _) rfl rfl rfl ?_   -- 5.7
    refine V_asg (.n _) rfl rfl ?_   -- 5.8
    refine V_asg (.n _) rfl rfl ?_   -- 5.9
    refine V_asg (.n _) rfl rfl ?_   -- 5.10
    refine V_sub [(0, _), (1, _), (2, _), (4, _), (5, _), (6, _), (7, _), (8, _), (9, _), (10, _), (36, _)] ⟨rfl, rfl, rfl, rfl, rfl, rfl, rfl, rfl, rfl, rfl, rfl, trivial⟩ ?_
    refine V_nil (.inl rfl) ?_
    refine E_then ?_
    refine J_seq ?_
    refine J_region ?_
    refine V_ldN (.n _) Tryd.isAgg48 Tryd.sizeOf48 rfl (by repeat (first | exact List.Mem.head _ | assumption | apply List.Mem.tail | apply List.mem_append_right)) (by rfl) rfl rfl ?_   -- 6.0
    refine V_mov (.n _) rfl rfl ?_   -- 6.1
    refine V_call0 (.n _) Tryd.call39 (.cons rfl (.cons rfl .nil)) (fun w1 hw1 => RCheck_spec w1 A1 A2 A3 c1 c2 c3 vs st ch be hl1 hl2 hl3 (hp.keep hw1) hlr AT cT ts hlt (ht.keep hw1)) rfl trivial ?_   -- 6.2
    refine V_mov (.n _) rfl rfl ?_   -- 6.3
    refine V_ext (.n _) rfl rfl rfl ?_   -- 6.4
    refine V_ext (.n _) rfl rfl rfl ?_   -- 6.5
    refine V_ext (.n _) rfl rfl rfl ?_   -- 6.6
    refine V_asg (.n _) rfl rfl ?_   -- 6.7
    refine V_asg (.n _) rfl rfl ?_   -- 6.8
    refine V_asg (.n _) rfl rfl ?_   -- 6.9
    refine V_sub [(0, _), (1, _), (2, _), (4, _), (5, _), (6, _), (7, _), (8, _), (9, _), (10, _), (11, _), (12, _), (36, _)] ⟨rfl, rfl, rfl, rfl, rfl, rfl, rfl, rfl, rfl, rfl, rfl, rfl, rfl, trivial⟩ ?_
    refine V_nil (.inl rfl) ?_
    refine E_then ?_
    refine J_seq ?_
    refine J_region ?_
    refine V_mov (.n _) rfl rfl ?_   -- 7.0
    refine V_mov (.n _) rfl rfl ?_   -- 7.1
    refine V_eql (.n _) rfl rfl rfl ?_   -- 7.2
    refine V_mov (.n _) rfl rfl ?_   -- 7.3
    refine V_split 55 rfl (fun h2 => ?_) (fun h2 => ?_)   -- guard 7.3
    · skip
      refine V_go (3, true) rfl ?_
      refine V_mov (.n _) rfl rfl ?_   -- 7.4
      refine V_go (3, true) rfl ?_
      refine V_mov (.n _) rfl rfl ?_   -- 7.5
      refine V_go (3, true) rfl ?_
      refine V_beql (.n _) Tryd.underlying4 rfl rfl rfl ?_   -- 7.6
      refine V_pickT (.n _) rfl rfl rfl ?_   -- 7.7
      refine V_mov (.n _) rfl rfl ?_   -- 7.8
      refine V_split 60 rfl (fun h3 => ?_) (fun h3 => ?_)   -- guard 7.8
      · skip
        refine V_go (8, true) rfl ?_
        refine V_mov (.n _) rfl rfl ?_   -- 7.9
        refine V_go (8, true) rfl ?_
        refine V_mov (.n _) rfl rfl ?_   -- 7.10
        refine V_go (8, true) rfl ?_
        refine V_eql (.n _) rfl rfl rfl ?_   -- 7.11
        refine V_pickT (.n _) rfl rfl rfl ?_   -- 7.12
        refine V_asg (.n _) rfl rfl ?_   -- 7.13
        refine V_sub [(0, _), (1, _), (2, _), (4, _), (5, _), (6, _), (7, _), (8, _), (9, _), (10, _), (11, _), (12, _), (36, _)] ⟨rfl, rfl, rfl, rfl, rfl, rfl, rfl, rfl, rfl, rfl, rfl, rfl, rfl, trivial⟩ ?_
        refine V_nil (.inl rfl) ?_
        refine E_then ?_
        refine J_ret ?_
        -- return R0
        refine E_ret1 Tryd.results10 rfl (fun w hw => ?_)
        exact ⟨by first | rfl | rw [decide_eq_true rfl], hw.sub (fun x hx => by simp at hx) (by simp [keys])⟩
      · exact absurd rfl h3
    · exact absurd rfl h2

theorem first_spec (w : World) (A1 A2 A3 : Option Addr) (c1 c2 c3 : Nat) (vs : List Value) (st : List Int) (ch : Rows2) (be : List (Int × Int)) (hl1 : st.length ≤ 140737488351232) (hl2 : ch.length ≤ 140737488351232) (hl3 : be.length ≤ 140737488351232) (hp : PR w A1 A2 A3 vs st ch be) (hlr : ∀ r ∈ ch, r.length ≤ 140737488351232) (hc1 : st.length ≤ c1) (hcr : ∀ (i : Nat) (A : Option Addr) (l c : Nat), vs[i]? = some (Value.slice A l c) → l ≤ c) (AO : Option Addr) (cO : Nat) (os : List Int) (hlo : os.length ≤ 140737488351232) (ho : Rd w AO (I os)) : Calls Tryd.prog 12 #[.agg #[.slice A1 st.length c1, .slice A2 ch.length c2, .slice A3 be.length c3], .slice AO os.length cO] w fun e w' => e = .returned (.bool true) ∧ St w [] w' := by
  refine calls (args := [.agg #[.slice A1 st.length c1, .slice A2 ch.length c2, .slice A3 be.length c3], .slice AO os.length cO]) Tryd.func12 rfl Tryd.ntmps12 (Nat.le_of_ble_eq_true rfl) (St.refl w) ?_
  refine J_seq ?_
  refine J_region ?_
  refine V_box (.n _) rfl rfl rfl (fun _ => trivial) (fun b2 => ?_)   -- 0.0
  refine V_asg (.n _) rfl rfl ?_   -- 0.1
  refine V_sub [(0, _), (1, _), (2, _), (4, _)] ⟨rfl, rfl, rfl, rfl, trivial⟩ ?_
  refine V_nil (.inl rfl) ?_
  refine E_then ?_
  refine J_seq ?_
  refine J_region ?_
  refine V_ldN (.n _) Tryd.isAgg48 Tryd.sizeOf48 rfl (by repeat (first | exact List.Mem.head _ | assumption | apply List.Mem.tail | apply List.mem_append_right)) (by rfl) rfl rfl ?_   -- 1.0
  refine V_call (post := fun v D => ∃ A1' c1' A2' c2' A3' c3' vs', v = .agg #[.slice A1' (st.take 12).length c1', .slice A2' (ch12 ch).length c2', .slice A3' (be.take 42).length c3'] ∧ PRds D A1' A2' A3' vs' (st.take 12) (ch12 ch) (be.take 42)) (.n _) Tryd.call32 (.cons rfl .nil) (fun w1 hw1 => of_spec w1 A1 A2 A3 c1 c2 c3 vs st ch be hl1 hl2 hl3 (hp.keep hw1) hc1 hcr) rfl trivial ?_
  rintro _ Dx ⟨a1x, k1x, a2x, k2x, a3x, k3x, usx, rfl, hPx⟩
  refine V_call (post := fun v D => ∃ A c, v = .tuple #[.slice A (bestR st ch be).1.length c, .int .i64 (bestR st ch be).2] ∧ Rds D A (I (bestR st ch be).1)) (.n _) Tryd.call31 (.cons rfl .nil) (fun w1 hw1 => by
    have h := Best_spec w1 a1x a2x a3x k1x k2x k3x usx (st.take 12) (ch12 ch) (be.take 42) (by rw [List.length_take]; omega) (by rw [ch12_len]; omega) (by rw [List.length_take]; omega) (hPx.at hw1 (by intro x hx; simp [hx])) ch12_rows
    rw [best_of] at h
    exact h.mono fun e w2 ⟨A, c, D, he, hD, hR⟩ => ⟨_, D, he, hD, A, c, rfl, hR⟩) rfl trivial ?_
  rintro _ Ep ⟨bap, bcp, rfl, hBp⟩
  refine V_mov (.n _) rfl rfl ?_   -- 1.3
  refine V_ext (.n _) rfl rfl rfl ?_   -- 1.4
  refine V_ext (.n _) rfl rfl rfl ?_   -- 1.5
  refine V_asg (.n _) rfl rfl ?_   -- 1.6
  refine V_asg (.n _) rfl rfl ?_   -- 1.7
  refine V_sub [(0, _), (1, _), (2, _), (4, _), (5, _), (6, _)] ⟨rfl, rfl, rfl, rfl, rfl, rfl, trivial⟩ ?_
  refine V_nil (.inl rfl) ?_
  refine E_then ?_
  refine J_seq ?_
  refine J_region ?_
  refine V_ldN (.n _) Tryd.isAgg48 Tryd.sizeOf48 rfl (by repeat (first | exact List.Mem.head _ | assumption | apply List.Mem.tail | apply List.mem_append_right)) (by rfl) rfl rfl ?_   -- 2.0
  refine V_call (post := fun v D => ∃ A1' c1' A2' c2' A3' c3' vs', v = .agg #[.slice A1' (st.take 12).length c1', .slice A2' (ch12 ch).length c2', .slice A3' (be.take 42).length c3'] ∧ PRds D A1' A2' A3' vs' (st.take 12) (ch12 ch) (be.take 42)) (.n _) Tryd.call32 (.cons rfl .nil) (fun w1 hw1 => of_spec w1 A1 A2 A3 c1 c2 c3 vs st ch be hl1 hl2 hl3 (hp.keep hw1) hc1 hcr) rfl trivial ?_
  rintro _ Dy ⟨a1y, k1y, a2y, k2y, a3y, k3y, usy, rfl, hPy⟩
  refine V_mov (.n _) rfl rfl ?_   -- 2.2
  refine V_call0 (v := .tuple #[.int .i64 (costR st ch be os).1, .int .i64 (costR st ch be os).2]) (.n _) Tryd.call35 (.cons rfl (.cons rfl .nil)) (fun w1 hw1 => by
  have h := Cost_spec w1 a1y a2y a3y k1y k2y k3y usy (st.take 12) (ch12 ch) (be.take 42) (by rw [List.length_take]; omega) (by rw [ch12_len]; omega) (by rw [List.length_take]; omega) (hPy.at hw1 (by intro x hx; simp [hx])) ch12_rows AO cO os hlo (ho.keep hw1)
  rw [cost_of] at h
  exact h) rfl trivial ?_
  refine V_mov (.n _) rfl rfl ?_   -- 2.4
  refine V_ext (.n _) rfl rfl rfl ?_   -- 2.5
  refine V_ext (.n _) rfl rfl rfl ?_   -- 2.6
  refine V_asg (.n _) rfl rfl ?_   -- 2.7
  refine V_asg (.n _) rfl rfl ?_   -- 2.8
  refine V_sub [(0, _), (1, _), (2, _), (4, _), (5, _), (6, _), (7, _), (8, _)] ⟨rfl, rfl, rfl, rfl, rfl, rfl, rfl, rfl, trivial⟩ ?_
  refine V_nil (.inl rfl) ?_
  refine E_then ?_
  refine J_seq ?_
  refine J_seq ?_
  refine J_region ?_
  refine V_mov (.n _) rfl rfl ?_   -- 3.0
  refine V_neq (.n _) rfl rfl rfl ?_   -- 3.1
  refine V_sub [(0, _), (1, _), (2, _), (4, _), (5, _), (6, _), (7, _), (8, _), (25, _)] ⟨rfl, rfl, rfl, rfl, rfl, rfl, rfl, rfl, rfl, trivial⟩ ?_
  refine V_nil (.inl rfl) ?_
  refine E_then ?_
  refine J_cond rfl (fun h1 => ?_) (fun h1 => ?_)   -- C0
  · obtain ⟨herr, hall⟩ := best_err h1
    have hcos := hall os
    refine J_seq ?_
    refine J_region ?_
    refine V_mov (.n _) rfl rfl ?_   -- 4.0
    refine V_eql (.n _) rfl rfl rfl ?_   -- 4.1
    refine V_mov (.n _) rfl rfl ?_   -- 4.2
    refine V_split 28 rfl (fun h2 => ?_) (fun h2 => ?_)   -- guard 4.2
    · skip
      refine V_pass (.n .p) (2, false) rfl rfl ?_   -- 4.3
      refine V_pass (.n .p) (2, false) rfl rfl ?_   -- 4.4
      refine V_pickT (.n _) rfl rfl rfl ?_   -- 4.5
      refine V_mov (.n _) rfl rfl ?_   -- 4.6
      refine V_go (6, true) rfl ?_
      refine V_mov (.n _) rfl rfl ?_   -- 4.7
      refine V_go (6, true) rfl ?_
      refine V_neq (.n _) rfl rfl rfl ?_   -- 4.8
      refine V_pickT (.n _) rfl rfl rfl ?_   -- 4.9
      refine V_mov (.n _) rfl rfl ?_   -- 4.10
      refine V_split 36 rfl (fun h3 => ?_) (fun h3 => ?_)   -- guard 4.10
      · skip
        refine V_go (10, true) rfl ?_
        refine V_call0 (.n _) Tryd.call17 .nil (fun w1 hw1 => awake_spec w1) rfl trivial ?_   -- 4.11
        refine V_pickT (.n _) rfl rfl rfl ?_   -- 4.12
        refine V_asg (.n _) rfl rfl ?_   -- 4.13
        refine V_sub [(0, _), (1, _), (2, _), (4, _), (5, _), (6, _), (7, _), (8, _), (25, _)] ⟨rfl, rfl, rfl, rfl, rfl, rfl, rfl, rfl, rfl, trivial⟩ ?_
        refine V_nil (.inl rfl) ?_
        refine E_then ?_
        refine J_ret ?_
        refine E_then_ret ?_
        -- return R0
        refine E_ret1 Tryd.results12 rfl (fun w hw => ?_)
        exact ⟨by first | rfl | rw [decide_eq_true rfl], hw.sub (fun x hx => by simp at hx) (by simp [keys])⟩
      · exact absurd hcos h3
    · skip
      refine V_go (2, false) rfl ?_
      refine V_mov (.n _) rfl rfl ?_   -- 4.3
      refine V_go (2, false) rfl ?_
      refine V_eql (.n _) rfl rfl rfl ?_   -- 4.4
      refine V_pickF (.n _) rfl rfl rfl ?_   -- 4.5
      refine V_mov (.n _) rfl rfl ?_   -- 4.6
      refine V_split 32 rfl (fun h4 => ?_) (fun h4 => ?_)   -- guard 4.6
      · skip
        refine V_go (6, true) rfl ?_
        refine V_mov (.n _) rfl rfl ?_   -- 4.7
        refine V_go (6, true) rfl ?_
        refine V_neq (.n _) rfl rfl rfl ?_   -- 4.8
        refine V_pickT (.n _) rfl rfl rfl ?_   -- 4.9
        refine V_mov (.n _) rfl rfl ?_   -- 4.10
        refine V_split 36 rfl (fun h5 => ?_) (fun h5 => ?_)   -- guard 4.10
        · skip
          refine V_go (10, true) rfl ?_
          refine V_call0 (.n _) Tryd.call17 .nil (fun w1 hw1 => awake_spec w1) rfl trivial ?_   -- 4.11
          refine V_pickT (.n _) rfl rfl rfl ?_   -- 4.12
          refine V_asg (.n _) rfl rfl ?_   -- 4.13
          refine V_sub [(0, _), (1, _), (2, _), (4, _), (5, _), (6, _), (7, _), (8, _), (25, _)] ⟨rfl, rfl, rfl, rfl, rfl, rfl, rfl, rfl, rfl, trivial⟩ ?_
          refine V_nil (.inl rfl) ?_
          refine E_then ?_
          refine J_ret ?_
          refine E_then_ret ?_
          -- return R1
          refine E_ret1 Tryd.results12 rfl (fun w hw => ?_)
          exact ⟨by first | rfl | rw [decide_eq_true rfl], hw.sub (fun x hx => by simp at hx) (by simp [keys])⟩
        · exact absurd hcos h5
      · exact absurd (by omega) h4
  · have hb0 : (bestR st ch be).2 = 0 := by omega
    have hbc := best_cost hb0
    have hbc2 : (costR st ch be (bestR st ch be).1).2 = 0 := by rw [hbc]
    refine J_skip ?_
    refine E_then ?_
    refine J_seq ?_
    refine J_region ?_
    refine V_ldN (.n _) Tryd.isAgg48 Tryd.sizeOf48 rfl (by repeat (first | exact List.Mem.head _ | assumption | apply List.Mem.tail | apply List.mem_append_right)) (by rfl) rfl rfl ?_   -- 5.0
    refine V_call (post := fun v D => ∃ A1' c1' A2' c2' A3' c3' vs', v = .agg #[.slice A1' (st.take 12).length c1', .slice A2' (ch12 ch).length c2', .slice A3' (be.take 42).length c3'] ∧ PRds D A1' A2' A3' vs' (st.take 12) (ch12 ch) (be.take 42)) (.n _) Tryd.call32 (.cons rfl .nil) (fun w1 hw1 => of_spec w1 A1 A2 A3 c1 c2 c3 vs st ch be hl1 hl2 hl3 (hp.keep hw1) hc1 hcr) rfl trivial ?_
    rintro _ Dz ⟨a1z, k1z, a2z, k2z, a3z, k3z, usz, rfl, hPz⟩
    refine V_mov (.n _) rfl rfl ?_   -- 5.2
    refine V_call0 (v := .tuple #[.int .i64 (costR st ch be (bestR st ch be).1).1, .int .i64 (costR st ch be (bestR st ch be).1).2]) (.n _) Tryd.call35 (.cons rfl (.cons rfl .nil)) (fun w1 hw1 => by
    have h := Cost_spec w1 a1z a2z a3z k1z k2z k3z usz (st.take 12) (ch12 ch) (be.take 42) (by rw [List.length_take]; omega) (by rw [ch12_len]; omega) (by rw [List.length_take]; omega) (hPz.at hw1 (by intro x hx; simp [hx])) ch12_rows bap bcp (bestR st ch be).1 (bestR_len st ch be) (hBp.of hw1 (by intro x hx; simp [hx]))
    rw [cost_of] at h
    exact h) rfl trivial ?_
    refine V_mov (.n _) rfl rfl ?_   -- 5.4
    refine V_ext (.n _) rfl rfl rfl ?_   -- 5.5
    refine V_ext (.n _) rfl rfl rfl ?_   -- 5.6
    refine V_asg (.n _) rfl rfl ?_   -- 5.7
    refine V_asg (.n _) rfl rfl ?_   -- 5.8
    refine V_sub [(0, _), (1, _), (2, _), (4, _), (5, _), (6, _), (7, _), (8, _), (9, _), (10, _), (25, _)] ⟨rfl, rfl, rfl, rfl, rfl, rfl, rfl, rfl, rfl, rfl, rfl, trivial⟩ ?_
    refine V_nil (.inl rfl) ?_
    refine E_then ?_
    refine J_seq ?_
    refine J_region ?_
    refine V_mov (.n _) rfl rfl ?_   -- 6.0
    refine V_eql (.n _) rfl rfl rfl ?_   -- 6.1
    refine V_mov (.n _) rfl rfl ?_   -- 6.2
    refine V_split 48 rfl (fun h6 => ?_) (fun h6 => ?_)   -- guard 6.2
    · skip
      refine V_go (2, true) rfl ?_
      refine V_mov (.n _) rfl rfl ?_   -- 6.3
      refine V_go (2, true) rfl ?_
      refine V_neq (.n _) rfl rfl rfl ?_   -- 6.4
      refine V_go (2, true) rfl ?_
      refine V_mov (.n _) rfl rfl ?_   -- 6.5
      refine V_split 51 rfl (fun h7 => ?_) (fun h7 => ?_)   -- guard 6.5
      · skip
        refine V_pass (.n .p) (5, false) rfl rfl ?_   -- 6.6
        refine V_pass (.n .p) (5, false) rfl rfl ?_   -- 6.7
        refine V_pass (.n .p) (5, false) rfl rfl ?_   -- 6.8
        refine V_go (2, true) rfl ?_
        refine V_pickT (.n _) rfl rfl rfl ?_   -- 6.9
        refine V_go (2, true) rfl ?_
        refine V_mov (.n _) rfl rfl ?_   -- 6.10
        refine V_pass (.n .p) (10, false) rfl rfl ?_   -- 6.11
        refine V_pass (.n .p) (10, false) rfl rfl ?_   -- 6.12
        refine V_pass (.n .p) (10, false) rfl rfl ?_   -- 6.13
        refine V_pass (.n .p) (10, false) rfl rfl ?_   -- 6.14
        refine V_pass (.n .p) (14, true) rfl rfl ?_   -- 6.15
        refine V_pass (.n .p) (14, true) rfl rfl ?_   -- 6.16
        refine V_pass (.n .p) (14, true) rfl rfl ?_   -- 6.17
        refine V_pass (.n .p) (14, true) rfl rfl ?_   -- 6.18
        refine V_pass (.n .p) (10, false) rfl rfl ?_   -- 6.19
        refine V_go (2, true) rfl ?_
        refine V_pickT (.n _) rfl rfl rfl ?_   -- 6.20
        refine V_pickT (.n _) rfl rfl rfl ?_   -- 6.21
        refine V_mov (.n _) rfl rfl ?_   -- 6.22
        refine V_go (22, true) rfl ?_
        refine V_call0 (.n _) Tryd.call17 .nil (fun w1 hw1 => awake_spec w1) rfl trivial ?_   -- 6.23
        refine V_pickT (.n _) rfl rfl rfl ?_   -- 6.24
        refine V_asg (.n _) rfl rfl ?_   -- 6.25
        refine V_sub [(0, _), (1, _), (2, _), (4, _), (5, _), (6, _), (7, _), (8, _), (9, _), (10, _), (25, _)] ⟨rfl, rfl, rfl, rfl, rfl, rfl, rfl, rfl, rfl, rfl, rfl, trivial⟩ ?_
        refine V_nil (.inl rfl) ?_
        refine E_then ?_
        refine J_ret ?_
        -- return R2
        refine E_ret1 Tryd.results12 rfl (fun w hw => ?_)
        exact ⟨by first | rfl | rw [decide_eq_true rfl], hw.sub (fun x hx => by simp at hx) (by simp [keys])⟩
      · obtain ⟨hle, hcmp⟩ := best_first hb0 (show (costR st ch be os).2 = 0 by omega)
        refine V_go (5, false) rfl ?_
        refine V_mov (.n _) rfl rfl ?_   -- 6.6
        refine V_go (5, false) rfl ?_
        refine V_mov (.n _) rfl rfl ?_   -- 6.7
        refine V_go (5, false) rfl ?_
        refine V_lss (.n _) rfl rfl rfl ?_   -- 6.8
        refine V_go (2, true) rfl ?_
        refine V_pickF (.n _) rfl rfl rfl ?_   -- 6.9
        refine V_go (2, true) rfl ?_
        refine V_mov (.n _) rfl rfl ?_   -- 6.10
        refine V_split 56 rfl (fun h8 => ?_) (fun h8 => ?_)   -- guard 6.10
        · skip
          refine V_pass (.n .p) (10, false) rfl rfl ?_   -- 6.11
          refine V_pass (.n .p) (10, false) rfl rfl ?_   -- 6.12
          refine V_pass (.n .p) (10, false) rfl rfl ?_   -- 6.13
          refine V_pass (.n .p) (10, false) rfl rfl ?_   -- 6.14
          refine V_pass (.n .p) (14, true) rfl rfl ?_   -- 6.15
          refine V_pass (.n .p) (14, true) rfl rfl ?_   -- 6.16
          refine V_pass (.n .p) (14, true) rfl rfl ?_   -- 6.17
          refine V_pass (.n .p) (14, true) rfl rfl ?_   -- 6.18
          refine V_pass (.n .p) (10, false) rfl rfl ?_   -- 6.19
          refine V_go (2, true) rfl ?_
          refine V_pickT (.n _) rfl rfl rfl ?_   -- 6.20
          refine V_pickT (.n _) rfl rfl rfl ?_   -- 6.21
          refine V_mov (.n _) rfl rfl ?_   -- 6.22
          refine V_go (22, true) rfl ?_
          refine V_call0 (.n _) Tryd.call17 .nil (fun w1 hw1 => awake_spec w1) rfl trivial ?_   -- 6.23
          refine V_pickT (.n _) rfl rfl rfl ?_   -- 6.24
          refine V_asg (.n _) rfl rfl ?_   -- 6.25
          refine V_sub [(0, _), (1, _), (2, _), (4, _), (5, _), (6, _), (7, _), (8, _), (9, _), (10, _), (25, _)] ⟨rfl, rfl, rfl, rfl, rfl, rfl, rfl, rfl, rfl, rfl, rfl, trivial⟩ ?_
          refine V_nil (.inl rfl) ?_
          refine E_then ?_
          refine J_ret ?_
          -- return R3
          refine E_ret1 Tryd.results12 rfl (fun w hw => ?_)
          exact ⟨by first | rfl | rw [decide_eq_true rfl], hw.sub (fun x hx => by simp at hx) (by simp [keys])⟩
        · skip
          refine V_go (10, false) rfl ?_
          refine V_mov (.n _) rfl rfl ?_   -- 6.11
          refine V_go (10, false) rfl ?_
          refine V_mov (.n _) rfl rfl ?_   -- 6.12
          refine V_go (10, false) rfl ?_
          refine V_eql (.n _) rfl rfl rfl ?_   -- 6.13
          refine V_go (10, false) rfl ?_
          refine V_mov (.n _) rfl rfl ?_   -- 6.14
          refine V_split 60 rfl (fun h9 => ?_) (fun h9 => ?_)   -- guard 6.14
          · skip
            refine V_go (14, true) rfl ?_
            refine V_mov (.n _) rfl rfl ?_   -- 6.15
            refine V_go (14, true) rfl ?_
            refine V_mov (.n _) rfl rfl ?_   -- 6.16
            refine V_go (14, true) rfl ?_
            refine V_call0 (.n _) Tryd.call42 (.cons rfl (.cons rfl .nil)) (fun w1 hw1 => compare_spec w1 bap AO bcp cO (bestR st ch be).1 os (bestR_len st ch be) hlo (hBp.of hw1 (by intro x hx; simp [hx])) (ho.keep hw1)) rfl trivial ?_   -- 6.17
            refine V_go (14, true) rfl ?_
            refine V_leq (.n _) rfl rfl rfl ?_   -- 6.18
            refine V_go (10, false) rfl ?_
            refine V_pickT (.n _) rfl rfl rfl ?_   -- 6.19
            refine V_go (2, true) rfl ?_
            refine V_pickF (.n _) rfl rfl rfl ?_   -- 6.20
            refine V_pickT (.n _) rfl rfl rfl ?_   -- 6.21
            refine V_mov (.n _) rfl rfl ?_   -- 6.22
            refine V_split 68 rfl (fun h10 => ?_) (fun h10 => ?_)   -- guard 6.22
            · skip
              refine V_go (22, true) rfl ?_
              refine V_call0 (.n _) Tryd.call17 .nil (fun w1 hw1 => awake_spec w1) rfl trivial ?_   -- 6.23
              refine V_pickT (.n _) rfl rfl rfl ?_   -- 6.24
              refine V_asg (.n _) rfl rfl ?_   -- 6.25
              refine V_sub [(0, _), (1, _), (2, _), (4, _), (5, _), (6, _), (7, _), (8, _), (9, _), (10, _), (25, _)] ⟨rfl, rfl, rfl, rfl, rfl, rfl, rfl, rfl, rfl, rfl, rfl, trivial⟩ ?_
              refine V_nil (.inl rfl) ?_
              refine E_then ?_
              refine J_ret ?_
              -- return R4
              refine E_ret1 Tryd.results12 rfl (fun w hw => ?_)
              exact ⟨by first | rfl | rw [decide_eq_true rfl], hw.sub (fun x hx => by simp at hx) (by simp [keys])⟩
            · exact absurd (hcmp (by omega)) h10
          · exact absurd (by omega) h9
    · exact absurd hbc2 h6

theorem proof_spec (w : World) (A1 A2 A3 : Option Addr) (c1 c2 c3 : Nat) (vs : List Value) (st : List Int) (ch : Rows2) (be : List (Int × Int)) (hl1 : st.length ≤ 140737488351232) (hl2 : ch.length ≤ 140737488351232) (hl3 : be.length ≤ 140737488351232) (hp : PR w A1 A2 A3 vs st ch be) (hlr : ∀ r ∈ ch, r.length ≤ 140737488351232) (hc1 : st.length ≤ c1) (hcr : ∀ (i : Nat) (A : Option Addr) (l c : Nat), vs[i]? = some (Value.slice A l c) → l ≤ c) (AT : Option Addr) (cT : Nat) (ts : List Int) (hlt : ts.length ≤ 140737488351232) (ht : Rd w AT (I ts)) (AO : Option Addr) (cO : Nat) (os : List Int) (hlo : os.length ≤ 140737488351232) (ho : Rd w AO (I os)) : Calls Tryd.prog 13 #[.agg #[.slice A1 st.length c1, .slice A2 ch.length c2, .slice A3 be.length c3], .slice AT ts.length cT, .slice AO os.length cO] w fun e w' => e = .returned (.bool true) ∧ St w [] w' := by
  refine calls (args := [.agg #[.slice A1 st.length c1, .slice A2 ch.length c2, .slice A3 be.length c3], .slice AT ts.length cT, .slice AO os.length cO]) Tryd.func13 rfl Tryd.ntmps13 (Nat.le_of_ble_eq_true rfl) (St.refl w) ?_
  refine J_seq ?_
  refine J_region ?_
  refine V_box (.n _) rfl rfl rfl (fun _ => trivial) (fun b3 => ?_)   -- 0.0
  refine V_asg (.n _) rfl rfl ?_   -- 0.1
  refine V_sub [(0, _), (1, _), (2, _), (3, _), (6, _)] ⟨rfl, rfl, rfl, rfl, rfl, trivial⟩ ?_
  refine V_nil (.inl rfl) ?_
  refine E_then ?_
  refine J_seq ?_
  refine J_region ?_
  refine V_ldN (.n _) Tryd.isAgg48 Tryd.sizeOf48 rfl (by repeat (first | exact List.Mem.head _ | assumption | apply List.Mem.tail | apply List.mem_append_right)) (by rfl) rfl rfl ?_   -- 1.0
  refine V_call (post := fun v D => ∃ A1' c1' A2' c2' A3' c3' vs', v = .agg #[.slice A1' (st.take 12).length c1', .slice A2' (ch12 ch).length c2', .slice A3' (be.take 42).length c3'] ∧ PRds D A1' A2' A3' vs' (st.take 12) (ch12 ch) (be.take 42)) (.n _) Tryd.call32 (.cons rfl .nil) (fun w1 hw1 => of_spec w1 A1 A2 A3 c1 c2 c3 vs st ch be hl1 hl2 hl3 (hp.keep hw1) hc1 hcr) rfl trivial ?_
  rintro _ Dx ⟨a1x, k1x, a2x, k2x, a3x, k3x, usx, rfl, hPx⟩
  refine V_call (post := fun v D => ∃ A c, v = .tuple #[.slice A (pricesR st ch be).1.length c, .int .i64 (pricesR st ch be).2] ∧ Rds D A (I (pricesR st ch be).1)) (.n _) Tryd.call36 (.cons rfl .nil) (fun w1 hw1 => by
    have h := Prices_spec w1 a1x a2x a3x k1x k2x k3x usx (st.take 12) (ch12 ch) (be.take 42) (by rw [List.length_take]; omega) (by rw [ch12_len]; omega) (by rw [List.length_take]; omega) (hPx.at hw1 (by intro x hx; simp [hx])) ch12_rows
    rw [prices_of] at h
    exact h.mono fun e w2 ⟨A, c, D, he, hD, hR⟩ => ⟨_, D, he, hD, A, c, rfl, hR⟩) rfl trivial ?_
  rintro _ Eo ⟨bao, bco, rfl, hBo⟩
  refine V_mov (.n _) rfl rfl ?_   -- 1.3
  refine V_ext (.n _) rfl rfl rfl ?_   -- 1.4
  refine V_ext (.n _) rfl rfl rfl ?_   -- 1.5
  refine V_asg (.n _) rfl rfl ?_   -- 1.6
  refine V_asg (.n _) rfl rfl ?_   -- 1.7
  refine V_sub [(0, _), (1, _), (2, _), (3, _), (6, _), (7, _), (8, _)] ⟨rfl, rfl, rfl, rfl, rfl, rfl, rfl, trivial⟩ ?_
  refine V_nil (.inl rfl) ?_
  refine E_then ?_
  refine J_seq ?_
  refine J_seq ?_
  refine J_region ?_
  refine V_mov (.n _) rfl rfl ?_   -- 2.0
  refine V_neq (.n _) rfl rfl rfl ?_   -- 2.1
  refine V_sub [(0, _), (1, _), (2, _), (3, _), (6, _), (7, _), (8, _), (27, _)] ⟨rfl, rfl, rfl, rfl, rfl, rfl, rfl, rfl, trivial⟩ ?_
  refine V_nil (.inl rfl) ?_
  refine E_then ?_
  refine J_cond rfl (fun h1 => ?_) (fun h1 => ?_)   -- C0
  · have herr := prices_err h1
    refine J_seq ?_
    refine J_region ?_
    refine V_mov (.n _) rfl rfl ?_   -- 3.0
    refine V_eql (.n _) rfl rfl rfl ?_   -- 3.1
    refine V_mov (.n _) rfl rfl ?_   -- 3.2
    refine V_split 30 rfl (fun h2 => ?_) (fun h2 => ?_)   -- guard 3.2
    · skip
      refine V_pass (.n .p) (2, false) rfl rfl ?_   -- 3.3
      refine V_pass (.n .p) (2, false) rfl rfl ?_   -- 3.4
      refine V_pickT (.n _) rfl rfl rfl ?_   -- 3.5
      refine V_mov (.n _) rfl rfl ?_   -- 3.6
      refine V_go (6, true) rfl ?_
      refine V_call0 (.n _) Tryd.call17 .nil (fun w1 hw1 => awake_spec w1) rfl trivial ?_   -- 3.7
      refine V_pickT (.n _) rfl rfl rfl ?_   -- 3.8
      refine V_asg (.n _) rfl rfl ?_   -- 3.9
      refine V_sub [(0, _), (1, _), (2, _), (3, _), (6, _), (7, _), (8, _), (27, _)] ⟨rfl, rfl, rfl, rfl, rfl, rfl, rfl, rfl, trivial⟩ ?_
      refine V_nil (.inl rfl) ?_
      refine E_then ?_
      refine J_ret ?_
      refine E_then_ret ?_
      -- return R0
      refine E_ret1 Tryd.results13 rfl (fun w hw => ?_)
      exact ⟨by first | rfl | rw [decide_eq_true rfl], hw.sub (fun x hx => by simp at hx) (by simp [keys])⟩
    · skip
      refine V_go (2, false) rfl ?_
      refine V_mov (.n _) rfl rfl ?_   -- 3.3
      refine V_go (2, false) rfl ?_
      refine V_eql (.n _) rfl rfl rfl ?_   -- 3.4
      refine V_pickF (.n _) rfl rfl rfl ?_   -- 3.5
      refine V_mov (.n _) rfl rfl ?_   -- 3.6
      refine V_split 34 rfl (fun h3 => ?_) (fun h3 => ?_)   -- guard 3.6
      · skip
        refine V_go (6, true) rfl ?_
        refine V_call0 (.n _) Tryd.call17 .nil (fun w1 hw1 => awake_spec w1) rfl trivial ?_   -- 3.7
        refine V_pickT (.n _) rfl rfl rfl ?_   -- 3.8
        refine V_asg (.n _) rfl rfl ?_   -- 3.9
        refine V_sub [(0, _), (1, _), (2, _), (3, _), (6, _), (7, _), (8, _), (27, _)] ⟨rfl, rfl, rfl, rfl, rfl, rfl, rfl, rfl, trivial⟩ ?_
        refine V_nil (.inl rfl) ?_
        refine E_then ?_
        refine J_ret ?_
        refine E_then_ret ?_
        -- return R1
        refine E_ret1 Tryd.results13 rfl (fun w hw => ?_)
        exact ⟨by first | rfl | rw [decide_eq_true rfl], hw.sub (fun x hx => by simp at hx) (by simp [keys])⟩
      · exact absurd (by omega) h3
  · obtain ⟨hb0, hck⟩ := prices_good (show (pricesR st ch be).2 = 0 by omega)
    have hbc := best_cost hb0
    have hbc2 : (costR st ch be (bestR st ch be).1).2 = 0 := by rw [hbc]
    have hck2 : (checkR st ch be (pricesR st ch be).1).2.2 = 0 := by rw [hck]
    have hck1 : (checkR st ch be (pricesR st ch be).1).2.1 = true := by rw [hck]
    have hck0 : (costR st ch be (bestR st ch be).1).1 = (checkR st ch be (pricesR st ch be).1).1 := by rw [hck, hbc]
    refine J_skip ?_
    refine E_then ?_
    refine J_seq ?_
    refine J_region ?_
    refine V_ldN (.n _) Tryd.isAgg48 Tryd.sizeOf48 rfl (by repeat (first | exact List.Mem.head _ | assumption | apply List.Mem.tail | apply List.mem_append_right)) (by rfl) rfl rfl ?_   -- 4.0
    refine V_call (post := fun v D => ∃ A1' c1' A2' c2' A3' c3' vs', v = .agg #[.slice A1' (st.take 12).length c1', .slice A2' (ch12 ch).length c2', .slice A3' (be.take 42).length c3'] ∧ PRds D A1' A2' A3' vs' (st.take 12) (ch12 ch) (be.take 42)) (.n _) Tryd.call32 (.cons rfl .nil) (fun w1 hw1 => of_spec w1 A1 A2 A3 c1 c2 c3 vs st ch be hl1 hl2 hl3 (hp.keep hw1) hc1 hcr) rfl trivial ?_
    rintro _ Dy ⟨a1y, k1y, a2y, k2y, a3y, k3y, usy, rfl, hPy⟩
    refine V_call (post := fun v D => ∃ A c, v = .tuple #[.slice A (bestR st ch be).1.length c, .int .i64 (bestR st ch be).2] ∧ Rds D A (I (bestR st ch be).1)) (.n _) Tryd.call31 (.cons rfl .nil) (fun w1 hw1 => by
      have h := Best_spec w1 a1y a2y a3y k1y k2y k3y usy (st.take 12) (ch12 ch) (be.take 42) (by rw [List.length_take]; omega) (by rw [ch12_len]; omega) (by rw [List.length_take]; omega) (hPy.at hw1 (by intro x hx; simp [hx])) ch12_rows
      rw [best_of] at h
      exact h.mono fun e w2 ⟨A, c, D, he, hD, hR⟩ => ⟨_, D, he, hD, A, c, rfl, hR⟩) rfl trivial ?_
    rintro _ Ep ⟨bap, bcp, rfl, hBp⟩
    refine V_mov (.n _) rfl rfl ?_   -- 4.3
    refine V_ext (.n _) rfl rfl rfl ?_   -- 4.4
    refine V_ext (.n _) rfl rfl rfl ?_   -- 4.5
    refine V_asg (.n _) rfl rfl ?_   -- 4.6
    refine V_asg (.n _) rfl rfl ?_   -- 4.7
    refine V_sub [(0, _), (1, _), (2, _), (3, _), (6, _), (7, _), (8, _), (9, _), (10, _), (27, _)] ⟨rfl, rfl, rfl, rfl, rfl, rfl, rfl, rfl, rfl, rfl, trivial⟩ ?_
    refine V_nil (.inl rfl) ?_
    refine E_then ?_
    refine J_seq ?_
    refine J_region ?_
    refine V_ldN (.n _) Tryd.isAgg48 Tryd.sizeOf48 rfl (by repeat (first | exact List.Mem.head _ | assumption | apply List.Mem.tail | apply List.mem_append_right)) (by rfl) rfl rfl ?_   -- 5.0
    refine V_call (post := fun v D => ∃ A1' c1' A2' c2' A3' c3' vs', v = .agg #[.slice A1' (st.take 12).length c1', .slice A2' (ch12 ch).length c2', .slice A3' (be.take 42).length c3'] ∧ PRds D A1' A2' A3' vs' (st.take 12) (ch12 ch) (be.take 42)) (.n _) Tryd.call32 (.cons rfl .nil) (fun w1 hw1 => of_spec w1 A1 A2 A3 c1 c2 c3 vs st ch be hl1 hl2 hl3 (hp.keep hw1) hc1 hcr) rfl trivial ?_
    rintro _ Dz ⟨a1z, k1z, a2z, k2z, a3z, k3z, usz, rfl, hPz⟩
    refine V_mov (.n _) rfl rfl ?_   -- 5.2
    refine V_call0 (v := .tuple #[.int .i64 (costR st ch be (bestR st ch be).1).1, .int .i64 (costR st ch be (bestR st ch be).1).2]) (.n _) Tryd.call35 (.cons rfl (.cons rfl .nil)) (fun w1 hw1 => by
    have h := Cost_spec w1 a1z a2z a3z k1z k2z k3z usz (st.take 12) (ch12 ch) (be.take 42) (by rw [List.length_take]; omega) (by rw [ch12_len]; omega) (by rw [List.length_take]; omega) (hPz.at hw1 (by intro x hx; simp [hx])) ch12_rows bap bcp (bestR st ch be).1 (bestR_len st ch be) (hBp.of hw1 (by intro x hx; simp [hx]))
    rw [cost_of] at h
    exact h) rfl trivial ?_
    refine V_mov (.n _) rfl rfl ?_   -- 5.4
    refine V_ext (.n _) rfl rfl rfl ?_   -- 5.5
    refine V_ext (.n _) rfl rfl rfl ?_   -- 5.6
    refine V_asg (.n _) rfl rfl ?_   -- 5.7
    refine V_asg (.n _) rfl rfl ?_   -- 5.8
    refine V_sub [(0, _), (1, _), (2, _), (3, _), (6, _), (7, _), (8, _), (9, _), (10, _), (11, _), (12, _), (27, _)] ⟨rfl, rfl, rfl, rfl, rfl, rfl, rfl, rfl, rfl, rfl, rfl, rfl, trivial⟩ ?_
    refine V_nil (.inl rfl) ?_
    refine E_then ?_
    refine J_seq ?_
    refine J_region ?_
    refine V_ldN (.n _) Tryd.isAgg48 Tryd.sizeOf48 rfl (by repeat (first | exact List.Mem.head _ | assumption | apply List.Mem.tail | apply List.mem_append_right)) (by rfl) rfl rfl ?_   -- 6.0
    refine V_call (post := fun v D => ∃ A1' c1' A2' c2' A3' c3' vs', v = .agg #[.slice A1' (st.take 12).length c1', .slice A2' (ch12 ch).length c2', .slice A3' (be.take 42).length c3'] ∧ PRds D A1' A2' A3' vs' (st.take 12) (ch12 ch) (be.take 42)) (.n _) Tryd.call32 (.cons rfl .nil) (fun w1 hw1 => of_spec w1 A1 A2 A3 c1 c2 c3 vs st ch be hl1 hl2 hl3 (hp.keep hw1) hc1 hcr) rfl trivial ?_
    rintro _ Du ⟨a1u, k1u, a2u, k2u, a3u, k3u, usu, rfl, hPu⟩
    refine V_mov (.n _) rfl rfl ?_   -- 6.2
    refine V_call0 (v := .tuple #[.int .i64 (checkR st ch be (pricesR st ch be).1).1, .bool (checkR st ch be (pricesR st ch be).1).2.1, .int .i64 (checkR st ch be (pricesR st ch be).1).2.2]) (.n _) Tryd.call38 (.cons rfl (.cons rfl .nil)) (fun w1 hw1 => by
    have h := Check_spec w1 a1u a2u a3u k1u k2u k3u usu (st.take 12) (ch12 ch) (be.take 42) (by rw [List.length_take]; omega) (by rw [ch12_len]; omega) (by rw [List.length_take]; omega) (hPu.at hw1 (by intro x hx; simp [hx])) ch12_rows bao bco (pricesR st ch be).1 (pricesR_len st ch be) (hBo.of hw1 (by intro x hx; simp [hx]))
    rw [check_of] at h
    exact h) rfl trivial ?_
    refine V_mov (.n _) rfl rfl ?_   -- 6.4
    refine V_ext (.n _) rfl rfl rfl ?_   -- 6.5
    refine V_ext (.n _) rfl rfl rfl ?_   -- 6.6
    refine V_ext (.n _) rfl rfl rfl ?_   -- 6.7
    refine V_asg (.n _) rfl rfl ?_   -- 6.8
    refine V_asg (.n _) rfl rfl ?_   -- 6.9
    refine V_asg (.n _) rfl rfl ?_   -- 6.10
    refine V_sub [(0, _), (1, _), (2, _), (3, _), (6, _), (7, _), (8, _), (9, _), (10, _), (11, _), (12, _), (13, _), (14, _), (15, _), (27, _)] ⟨rfl, rfl, rfl, rfl, rfl, rfl, rfl, rfl, rfl, rfl, rfl, rfl, rfl, rfl, rfl, trivial⟩ ?_
    refine V_nil (.inl rfl) ?_
    refine E_then ?_
    refine J_seq ?_
    refine J_seq ?_
    refine J_region ?_
    refine V_mov (.n _) rfl rfl ?_   -- 7.0
    refine V_neq (.n _) rfl rfl rfl ?_   -- 7.1
    refine V_mov (.n _) rfl rfl ?_   -- 7.2
    refine V_split 60 rfl (fun h4 => ?_) (fun h4 => ?_)   -- guard 7.2
    · exact absurd hb0 h4
    · skip
      refine V_go (2, false) rfl ?_
      refine V_mov (.n _) rfl rfl ?_   -- 7.3
      refine V_go (2, false) rfl ?_
      refine V_neq (.n _) rfl rfl rfl ?_   -- 7.4
      refine V_pickF (.n _) rfl rfl rfl ?_   -- 7.5
      refine V_mov (.n _) rfl rfl ?_   -- 7.6
      refine V_split 64 rfl (fun h5 => ?_) (fun h5 => ?_)   -- guard 7.6
      · exact absurd hbc2 h5
      · skip
        refine V_go (6, false) rfl ?_
        refine V_mov (.n _) rfl rfl ?_   -- 7.7
        refine V_go (6, false) rfl ?_
        refine V_neq (.n _) rfl rfl rfl ?_   -- 7.8
        refine V_pickF (.n _) rfl rfl rfl ?_   -- 7.9
        refine V_mov (.n _) rfl rfl ?_   -- 7.10
        refine V_split 68 rfl (fun h6 => ?_) (fun h6 => ?_)   -- guard 7.10
        · exact absurd hck2 h6
        · skip
          refine V_go (10, false) rfl ?_
          refine V_mov (.n _) rfl rfl ?_   -- 7.11
          refine V_go (10, false) rfl ?_
          refine V_notB (.n _) rfl rfl ?_   -- 7.12
          refine V_pickF (.n _) rfl rfl rfl ?_   -- 7.13
          refine V_mov (.n _) rfl rfl ?_   -- 7.14
          refine V_splitB 72 rfl (fun h7 => ?_) (fun h7 => ?_)   -- guard 7.14
          · exact absurd hck1 (by simpa using h7)
          · skip
            refine V_go (14, false) rfl ?_
            refine V_mov (.n _) rfl rfl ?_   -- 7.15
            refine V_go (14, false) rfl ?_
            refine V_mov (.n _) rfl rfl ?_   -- 7.16
            refine V_go (14, false) rfl ?_
            refine V_neq (.n _) rfl rfl rfl ?_   -- 7.17
            refine V_pickF (.n _) rfl rfl rfl ?_   -- 7.18
            refine V_sub [(0, _), (1, _), (2, _), (3, _), (6, _), (7, _), (8, _), (9, _), (10, _), (11, _), (12, _), (13, _), (14, _), (15, _), (27, _), (76, _)] ⟨rfl, rfl, rfl, rfl, rfl, rfl, rfl, rfl, rfl, rfl, rfl, rfl, rfl, rfl, rfl, rfl, trivial⟩ ?_
            refine V_nil (.inl rfl) ?_
            refine E_then ?_
            refine J_cond rfl (fun h8 => ?_) (fun h8 => ?_)   -- C1
            · exact absurd hck0 h8
            · skip
              refine J_skip ?_
              refine E_then ?_
              refine J_seq ?_
              refine J_region ?_
              refine V_ldN (.n _) Tryd.isAgg48 Tryd.sizeOf48 rfl (by repeat (first | exact List.Mem.head _ | assumption | apply List.Mem.tail | apply List.mem_append_right)) (by rfl) rfl rfl ?_   -- 9.0
              refine V_call (post := fun v D => ∃ A1' c1' A2' c2' A3' c3' vs', v = .agg #[.slice A1' (st.take 12).length c1', .slice A2' (ch12 ch).length c2', .slice A3' (be.take 42).length c3'] ∧ PRds D A1' A2' A3' vs' (st.take 12) (ch12 ch) (be.take 42)) (.n _) Tryd.call32 (.cons rfl .nil) (fun w1 hw1 => of_spec w1 A1 A2 A3 c1 c2 c3 vs st ch be hl1 hl2 hl3 (hp.keep hw1) hc1 hcr) rfl trivial ?_
              rintro _ Ds ⟨a1s, k1s, a2s, k2s, a3s, k3s, uss, rfl, hPs⟩
              refine V_mov (.n _) rfl rfl ?_   -- 9.2
              refine V_call0 (v := .tuple #[.int .i64 (checkR st ch be ts).1, .bool (checkR st ch be ts).2.1, .int .i64 (checkR st ch be ts).2.2]) (.n _) Tryd.call38 (.cons rfl (.cons rfl .nil)) (fun w1 hw1 => by
              have h := Check_spec w1 a1s a2s a3s k1s k2s k3s uss (st.take 12) (ch12 ch) (be.take 42) (by rw [List.length_take]; omega) (by rw [ch12_len]; omega) (by rw [List.length_take]; omega) (hPs.at hw1 (by intro x hx; simp [hx])) ch12_rows AT cT ts hlt (ht.keep hw1)
              rw [check_of] at h
              exact h) rfl trivial ?_
              refine V_mov (.n _) rfl rfl ?_   -- 9.4
              refine V_ext (.n _) rfl rfl rfl ?_   -- 9.5
              refine V_ext (.n _) rfl rfl rfl ?_   -- 9.6
              refine V_ext (.n _) rfl rfl rfl ?_   -- 9.7
              refine V_asg (.n _) rfl rfl ?_   -- 9.8
              refine V_asg (.n _) rfl rfl ?_   -- 9.9
              refine V_asg (.n _) rfl rfl ?_   -- 9.10
              refine V_sub [(0, _), (1, _), (2, _), (3, _), (6, _), (7, _), (8, _), (9, _), (10, _), (11, _), (12, _), (13, _), (14, _), (15, _), (16, _), (17, _), (27, _), (76, _)] ⟨rfl, rfl, rfl, rfl, rfl, rfl, rfl, rfl, rfl, rfl, rfl, rfl, rfl, rfl, rfl, rfl, rfl, rfl, trivial⟩ ?_
              refine V_nil (.inl rfl) ?_
              refine E_then ?_
              refine J_seq ?_
              refine J_region ?_
              refine V_ldN (.n _) Tryd.isAgg48 Tryd.sizeOf48 rfl (by repeat (first | exact List.Mem.head _ | assumption | apply List.Mem.tail | apply List.mem_append_right)) (by rfl) rfl rfl ?_   -- 10.0
              refine V_call (post := fun v D => ∃ A1' c1' A2' c2' A3' c3' vs', v = .agg #[.slice A1' (st.take 12).length c1', .slice A2' (ch12 ch).length c2', .slice A3' (be.take 42).length c3'] ∧ PRds D A1' A2' A3' vs' (st.take 12) (ch12 ch) (be.take 42)) (.n _) Tryd.call32 (.cons rfl .nil) (fun w1 hw1 => of_spec w1 A1 A2 A3 c1 c2 c3 vs st ch be hl1 hl2 hl3 (hp.keep hw1) hc1 hcr) rfl trivial ?_
              rintro _ Dt ⟨a1t, k1t, a2t, k2t, a3t, k3t, ust, rfl, hPt⟩
              refine V_mov (.n _) rfl rfl ?_   -- 10.2
              refine V_call0 (v := .tuple #[.int .i64 (costR st ch be os).1, .int .i64 (costR st ch be os).2]) (.n _) Tryd.call35 (.cons rfl (.cons rfl .nil)) (fun w1 hw1 => by
              have h := Cost_spec w1 a1t a2t a3t k1t k2t k3t ust (st.take 12) (ch12 ch) (be.take 42) (by rw [List.length_take]; omega) (by rw [ch12_len]; omega) (by rw [List.length_take]; omega) (hPt.at hw1 (by intro x hx; simp [hx])) ch12_rows AO cO os hlo (ho.keep hw1)
              rw [cost_of] at h
              exact h) rfl trivial ?_
              refine V_mov (.n _) rfl rfl ?_   -- 10.4
              refine V_ext (.n _) rfl rfl rfl ?_   -- 10.5
              refine V_ext (.n _) rfl rfl rfl ?_   -- 10.6
              refine V_asg (.n _) rfl rfl ?_   -- 10.7
              refine V_asg (.n _) rfl rfl ?_   -- 10.8
              refine V_sub [(0, _), (1, _), (2, _), (3, _), (6, _), (7, _), (8, _), (9, _), (10, _), (11, _), (12, _), (13, _), (14, _), (15, _), (16, _), (17, _), (18, _), (19, _), (27, _), (76, _)] ⟨rfl, rfl, rfl, rfl, rfl, rfl, rfl, rfl, rfl, rfl, rfl, rfl, rfl, rfl, rfl, rfl, rfl, rfl, rfl, rfl, trivial⟩ ?_
              refine V_nil (.inl rfl) ?_
              refine E_then ?_
              refine J_seq ?_
              refine J_region ?_
              refine V_mov (.n _) rfl rfl ?_   -- 11.0
              refine V_neq (.n _) rfl rfl rfl ?_   -- 11.1
              refine V_mov (.n _) rfl rfl ?_   -- 11.2
              refine V_split 94 rfl (fun h9 => ?_) (fun h9 => ?_)   -- guard 11.2
              · skip
                refine V_pass (.n .p) (2, false) rfl rfl ?_   -- 11.3
                refine V_pass (.n .p) (2, false) rfl rfl ?_   -- 11.4
                refine V_pickT (.n _) rfl rfl rfl ?_   -- 11.5
                refine V_mov (.n _) rfl rfl ?_   -- 11.6
                refine V_pass (.n .p) (6, false) rfl rfl ?_   -- 11.7
                refine V_pass (.n .p) (6, false) rfl rfl ?_   -- 11.8
                refine V_pass (.n .p) (6, false) rfl rfl ?_   -- 11.9
                refine V_pass (.n .p) (6, false) rfl rfl ?_   -- 11.10
                refine V_pass (.n .p) (10, true) rfl rfl ?_   -- 11.11
                refine V_pass (.n .p) (10, true) rfl rfl ?_   -- 11.12
                refine V_pass (.n .p) (10, true) rfl rfl ?_   -- 11.13
                refine V_pass (.n .p) (13, false) rfl rfl ?_   -- 11.14
                refine V_pass (.n .p) (13, false) rfl rfl ?_   -- 11.15
                refine V_pass (.n .p) (13, false) rfl rfl ?_   -- 11.16
                refine V_pass (.n .p) (10, true) rfl rfl ?_   -- 11.17
                refine V_pass (.n .p) (6, false) rfl rfl ?_   -- 11.18
                refine V_pickT (.n _) rfl rfl rfl ?_   -- 11.19
                refine V_mov (.n _) rfl rfl ?_   -- 11.20
                refine V_go (20, true) rfl ?_
                refine V_call0 (.n _) Tryd.call17 .nil (fun w1 hw1 => awake_spec w1) rfl trivial ?_   -- 11.21
                refine V_pickT (.n _) rfl rfl rfl ?_   -- 11.22
                refine V_asg (.n _) rfl rfl ?_   -- 11.23
                refine V_sub [(0, _), (1, _), (2, _), (3, _), (6, _), (7, _), (8, _), (9, _), (10, _), (11, _), (12, _), (13, _), (14, _), (15, _), (16, _), (17, _), (18, _), (19, _), (27, _), (76, _)] ⟨rfl, rfl, rfl, rfl, rfl, rfl, rfl, rfl, rfl, rfl, rfl, rfl, rfl, rfl, rfl, rfl, rfl, rfl, rfl, rfl, trivial⟩ ?_
                refine V_nil (.inl rfl) ?_
                refine E_then ?_
                refine J_ret ?_
                -- return R2
                refine E_ret1 Tryd.results13 rfl (fun w hw => ?_)
                exact ⟨by first | rfl | rw [decide_eq_true rfl], hw.sub (fun x hx => by simp at hx) (by simp [keys])⟩
              · skip
                refine V_go (2, false) rfl ?_
                refine V_mov (.n _) rfl rfl ?_   -- 11.3
                refine V_go (2, false) rfl ?_
                refine V_notB (.n _) rfl rfl ?_   -- 11.4
                refine V_pickF (.n _) rfl rfl rfl ?_   -- 11.5
                refine V_mov (.n _) rfl rfl ?_   -- 11.6
                refine V_splitB 98 rfl (fun h10 => ?_) (fun h10 => ?_)   -- guard 11.6
                · skip
                  refine V_pass (.n .p) (6, false) rfl rfl ?_   -- 11.7
                  refine V_pass (.n .p) (6, false) rfl rfl ?_   -- 11.8
                  refine V_pass (.n .p) (6, false) rfl rfl ?_   -- 11.9
                  refine V_pass (.n .p) (6, false) rfl rfl ?_   -- 11.10
                  refine V_pass (.n .p) (10, true) rfl rfl ?_   -- 11.11
                  refine V_pass (.n .p) (10, true) rfl rfl ?_   -- 11.12
                  refine V_pass (.n .p) (10, true) rfl rfl ?_   -- 11.13
                  refine V_pass (.n .p) (13, false) rfl rfl ?_   -- 11.14
                  refine V_pass (.n .p) (13, false) rfl rfl ?_   -- 11.15
                  refine V_pass (.n .p) (13, false) rfl rfl ?_   -- 11.16
                  refine V_pass (.n .p) (10, true) rfl rfl ?_   -- 11.17
                  refine V_pass (.n .p) (6, false) rfl rfl ?_   -- 11.18
                  refine V_pickT (.n _) rfl rfl rfl ?_   -- 11.19
                  refine V_mov (.n _) rfl rfl ?_   -- 11.20
                  refine V_go (20, true) rfl ?_
                  refine V_call0 (.n _) Tryd.call17 .nil (fun w1 hw1 => awake_spec w1) rfl trivial ?_   -- 11.21
                  refine V_pickT (.n _) rfl rfl rfl ?_   -- 11.22
                  refine V_asg (.n _) rfl rfl ?_   -- 11.23
                  refine V_sub [(0, _), (1, _), (2, _), (3, _), (6, _), (7, _), (8, _), (9, _), (10, _), (11, _), (12, _), (13, _), (14, _), (15, _), (16, _), (17, _), (18, _), (19, _), (27, _), (76, _)] ⟨rfl, rfl, rfl, rfl, rfl, rfl, rfl, rfl, rfl, rfl, rfl, rfl, rfl, rfl, rfl, rfl, rfl, rfl, rfl, rfl, trivial⟩ ?_
                  refine V_nil (.inl rfl) ?_
                  refine E_then ?_
                  refine J_ret ?_
                  -- return R3
                  refine E_ret1 Tryd.results13 rfl (fun w hw => ?_)
                  exact ⟨by first | rfl | rw [decide_eq_true rfl], hw.sub (fun x hx => by simp at hx) (by simp [keys])⟩
                · obtain ⟨_, hle1, hle2⟩ := check_good (ts := ts) (show (checkR st ch be ts).2.2 = 0 by omega) (by simpa using h10)
                  refine V_go (6, false) rfl ?_
                  refine V_mov (.n _) rfl rfl ?_   -- 11.7
                  refine V_go (6, false) rfl ?_
                  refine V_mov (.n _) rfl rfl ?_   -- 11.8
                  refine V_go (6, false) rfl ?_
                  refine V_leq (.n _) rfl rfl rfl ?_   -- 11.9
                  refine V_go (6, false) rfl ?_
                  refine V_mov (.n _) rfl rfl ?_   -- 11.10
                  refine V_split 102 rfl (fun h11 => ?_) (fun h11 => ?_)   -- guard 11.10
                  · skip
                    refine V_go (10, true) rfl ?_
                    refine V_mov (.n _) rfl rfl ?_   -- 11.11
                    refine V_go (10, true) rfl ?_
                    refine V_neq (.n _) rfl rfl rfl ?_   -- 11.12
                    refine V_go (10, true) rfl ?_
                    refine V_mov (.n _) rfl rfl ?_   -- 11.13
                    refine V_split 105 rfl (fun h12 => ?_) (fun h12 => ?_)   -- guard 11.13
                    · skip
                      refine V_pass (.n .p) (13, false) rfl rfl ?_   -- 11.14
                      refine V_pass (.n .p) (13, false) rfl rfl ?_   -- 11.15
                      refine V_pass (.n .p) (13, false) rfl rfl ?_   -- 11.16
                      refine V_go (10, true) rfl ?_
                      refine V_pickT (.n _) rfl rfl rfl ?_   -- 11.17
                      refine V_go (6, false) rfl ?_
                      refine V_pickT (.n _) rfl rfl rfl ?_   -- 11.18
                      refine V_pickF (.n _) rfl rfl rfl ?_   -- 11.19
                      refine V_mov (.n _) rfl rfl ?_   -- 11.20
                      refine V_go (20, true) rfl ?_
                      refine V_call0 (.n _) Tryd.call17 .nil (fun w1 hw1 => awake_spec w1) rfl trivial ?_   -- 11.21
                      refine V_pickT (.n _) rfl rfl rfl ?_   -- 11.22
                      refine V_asg (.n _) rfl rfl ?_   -- 11.23
                      refine V_sub [(0, _), (1, _), (2, _), (3, _), (6, _), (7, _), (8, _), (9, _), (10, _), (11, _), (12, _), (13, _), (14, _), (15, _), (16, _), (17, _), (18, _), (19, _), (27, _), (76, _)] ⟨rfl, rfl, rfl, rfl, rfl, rfl, rfl, rfl, rfl, rfl, rfl, rfl, rfl, rfl, rfl, rfl, rfl, rfl, rfl, rfl, trivial⟩ ?_
                      refine V_nil (.inl rfl) ?_
                      refine E_then ?_
                      refine J_ret ?_
                      -- return R4
                      refine E_ret1 Tryd.results13 rfl (fun w hw => ?_)
                      exact ⟨by first | rfl | rw [decide_eq_true rfl], hw.sub (fun x hx => by simp at hx) (by simp [keys])⟩
                    · skip
                      refine V_go (13, false) rfl ?_
                      refine V_mov (.n _) rfl rfl ?_   -- 11.14
                      refine V_go (13, false) rfl ?_
                      refine V_mov (.n _) rfl rfl ?_   -- 11.15
                      refine V_go (13, false) rfl ?_
                      refine V_leq (.n _) rfl rfl rfl ?_   -- 11.16
                      refine V_go (10, true) rfl ?_
                      refine V_pickF (.n _) rfl rfl rfl ?_   -- 11.17
                      refine V_go (6, false) rfl ?_
                      refine V_pickT (.n _) rfl rfl rfl ?_   -- 11.18
                      refine V_pickF (.n _) rfl rfl rfl ?_   -- 11.19
                      refine V_mov (.n _) rfl rfl ?_   -- 11.20
                      refine V_split 112 rfl (fun h13 => ?_) (fun h13 => ?_)   -- guard 11.20
                      · skip
                        refine V_go (20, true) rfl ?_
                        refine V_call0 (.n _) Tryd.call17 .nil (fun w1 hw1 => awake_spec w1) rfl trivial ?_   -- 11.21
                        refine V_pickT (.n _) rfl rfl rfl ?_   -- 11.22
                        refine V_asg (.n _) rfl rfl ?_   -- 11.23
                        refine V_sub [(0, _), (1, _), (2, _), (3, _), (6, _), (7, _), (8, _), (9, _), (10, _), (11, _), (12, _), (13, _), (14, _), (15, _), (16, _), (17, _), (18, _), (19, _), (27, _), (76, _)] ⟨rfl, rfl, rfl, rfl, rfl, rfl, rfl, rfl, rfl, rfl, rfl, rfl, rfl, rfl, rfl, rfl, rfl, rfl, rfl, rfl, trivial⟩ ?_
                        refine V_nil (.inl rfl) ?_
                        refine E_then ?_
                        refine J_ret ?_
                        -- return R5
                        refine E_ret1 Tryd.results13 rfl (fun w hw => ?_)
                        exact ⟨by first | rfl | rw [decide_eq_true rfl], hw.sub (fun x hx => by simp at hx) (by simp [keys])⟩
                      · exact absurd (hle2 os (by omega)) h13
                  · exact absurd hle1 h11

end Go.Proofs.YtgeahmmepfmcoaaDoor
