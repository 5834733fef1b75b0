/- parts of the proofs of the bath statements -/
import Derived.Test.YtgeahmmepfmcoaaDoorShort
import Derived.Test.YtgeahmmepfmcoaaDoorCovers
import Derived.Test.YtgeahmmepfmcoaaDoorBMath4
import Derived.Test.YtgeahmmepfmcoaaDoorCore9
namespace Go.Proofs.YtgeahmmepfmcoaaDoor
open Go Go.RowKit L
set_option linter.unusedVariables false
set_option linter.unusedSimpArgs false

/-- the sum over the letters that lead to what is least -/
def cSum (xs : List (List UInt8)) (tl tc : List Int) (p : Nat) (m : Int) (l : List UInt8) : Int :=
  l.foldl (fun n c => if 0 < adv c xs p 1 ∧ tl.getD (p + adv c xs p 1) 0 + 1 = m then IntKind.i64.wrap (n + tc.getD (p + adv c xs p 1) 0) else n) 0
theorem cSum_snoc (xs : List (List UInt8)) (tl tc : List Int) (p : Nat) (m : Int) (l : List UInt8) (c : UInt8) :
    cSum xs tl tc p m (l ++ [c]) = if 0 < adv c xs p 1 ∧ tl.getD (p + adv c xs p 1) 0 + 1 = m then IntKind.i64.wrap (cSum xs tl tc p m l + tc.getD (p + adv c xs p 1) 0) else cSum xs tl tc p m l := by
  simp only [cSum, List.foldl_append, List.foldl_cons, List.foldl_nil]
theorem cSum_none {xs : List (List UInt8)} {tl tc : List Int} {p : Nat} {m : Int} : ∀ (l : List UInt8), (∀ c ∈ l, 0 < adv c xs p 1 → tl.getD (p + adv c xs p 1) 0 + 1 ≠ m) → cSum xs tl tc p m l = 0 := by
  have key : ∀ (l : List UInt8) (n : Int), (∀ c ∈ l, 0 < adv c xs p 1 → tl.getD (p + adv c xs p 1) 0 + 1 ≠ m) → l.foldl (fun n c => if 0 < adv c xs p 1 ∧ tl.getD (p + adv c xs p 1) 0 + 1 = m then IntKind.i64.wrap (n + tc.getD (p + adv c xs p 1) 0) else n) n = n := by
    intro l
    induction l with
    | nil => intro n _; rfl
    | cons c l ih =>
      intro n h
      rw [List.foldl_cons, if_neg (fun hh => h c (by simp) hh.1 hh.2)]
      exact ih n (fun d hd => h d (by simp [hd]))
  exact fun l h => key l 0 h
theorem cBest_sum {xs : List (List UInt8)} {tl tc : List Int} {p : Nat} (hw : ∀ q, IntKind.i64.wrap (tc.getD q 0) = tc.getD q 0) (h0 : tc.getD p 0 = 0) (l : List UInt8) : (cBest xs tl tc p l).2 = cSum xs tl tc p (bestOf xs tl p l) l := by
  have key : ∀ (l l0 : List UInt8), (cBest xs tl tc p l0).2 = cSum xs tl tc p (bestOf xs tl p l0) l0 → (cBest xs tl tc p (l0 ++ l)).2 = cSum xs tl tc p (bestOf xs tl p (l0 ++ l)) (l0 ++ l) := by
    intro l
    induction l with
    | nil => intro l0 h; simpa using h
    | cons c l ih =>
      intro l0 h
      have e : l0 ++ c :: l = (l0 ++ [c]) ++ l := by simp
      rw [e]
      refine ih (l0 ++ [c]) ?_
      have e1 : cBest xs tl tc p (l0 ++ [c]) = cstep xs tl tc p (cBest xs tl tc p l0) c := by simp [cBest, List.foldl_append]
      have e2 : bestOf xs tl p (l0 ++ [c]) = if 0 < adv c xs p 1 then min (bestOf xs tl p l0) (tl.getD (p + adv c xs p 1) 0 + 1) else bestOf xs tl p l0 := by simp [bestOf, List.foldl_append]
      have e3 := cBest_fst xs tl tc p l0
      rw [e1, cSum_snoc, e2]
      unfold cstep
      rw [e3]
      by_cases ha : 0 < adv c xs p 1
      · rw [if_pos ha, if_pos ha]
        by_cases h1 : tl.getD (p + adv c xs p 1) 0 + 1 > bestOf xs tl p l0
        · rw [if_pos h1, Int.min_eq_left (by omega), if_neg (fun hh => by omega), h]
        · rw [if_neg h1]
          by_cases h2 : tl.getD (p + adv c xs p 1) 0 + 1 = bestOf xs tl p l0
          · rw [if_pos h2, Int.min_eq_left (by omega), if_pos ⟨ha, h2⟩, h]
          · rw [if_neg h2, Int.min_eq_right (by omega), if_pos ⟨ha, rfl⟩]
            have : cSum xs tl tc p (tl.getD (p + adv c xs p 1) 0 + 1) l0 = 0 := by
              refine cSum_none l0 fun d hd hpos => ?_
              have := best_le (t := tl) hpos l0 hd
              omega
            rw [this, Int.zero_add, hw]
      · rw [if_neg ha, if_neg ha, if_neg (fun hh => ha hh.1), h]
  exact key l [] (by exact h0)
theorem wrap_wrap (x : Int) : IntKind.i64.wrap (IntKind.i64.wrap x) = IntKind.i64.wrap x := by
  have : -9223372036854775808 ≤ IntKind.i64.wrap x ∧ IntKind.i64.wrap x ≤ 9223372036854775807 := by
    simp [IntKind.wrap, IntKind.bits, IntKind.signed]; omega
  exact wrap_ok this
theorem cSum_wrap (xs : List (List UInt8)) (tl tc : List Int) (p : Nat) (m : Int) (l : List UInt8) : IntKind.i64.wrap (cSum xs tl tc p m l) = cSum xs tl tc p m l := by
  have key : ∀ (l : List UInt8) (n : Int), IntKind.i64.wrap n = n → IntKind.i64.wrap (l.foldl (fun n c => if 0 < adv c xs p 1 ∧ tl.getD (p + adv c xs p 1) 0 + 1 = m then IntKind.i64.wrap (n + tc.getD (p + adv c xs p 1) 0) else n) n) = l.foldl (fun n c => if 0 < adv c xs p 1 ∧ tl.getD (p + adv c xs p 1) 0 + 1 = m then IntKind.i64.wrap (n + tc.getD (p + adv c xs p 1) 0) else n) n := by
    intro l
    induction l with
    | nil => intro n h; exact h
    | cons c l ih =>
      intro n h
      rw [List.foldl_cons]
      refine ih _ ?_
      split
      · exact wrap_wrap _
      · exact h
  exact key l 0 (wrap_ok (by omega))
/-- counts are whole numbers of 64 bits, and those in front are not yet counted -/
theorem cnt_inv (xs : List (List UInt8)) : ∀ (k : Nat), k + 1 ≤ posN xs → (∀ q, IntKind.i64.wrap ((cnt xs k).getD q 0) = (cnt xs k).getD q 0) ∧ ∀ q, q + 1 + k < posN xs → (cnt xs k).getD q 0 = 0
  | 0, hk => by
    refine ⟨fun q => ?_, fun q hq => ?_⟩
    · rw [cnt, getD_set]
      split
      · exact wrap_ok (by omega)
      · have : (List.replicate (posN xs) (0 : Int)).getD q 0 = 0 := by
          by_cases h : q < posN xs
          · simp [h]
          · simp [List.getD_eq_getElem?_getD, h]
        rw [this]; exact wrap_ok (by omega)
    · rw [cnt, getD_set, if_neg (by omega)]
      simp [show q < posN xs by omega]
  | k + 1, hk => by
    obtain ⟨h1, h2⟩ := cnt_inv xs k (by omega)
    refine ⟨fun q => ?_, fun q hq => ?_⟩
    · rw [cnt, getD_set]
      split
      · rw [cBest_sum h1 (h2 _ (by omega)), cSum_wrap]
      · exact h1 q
    · rw [cnt, getD_set, if_neg (by omega)]
      exact h2 q (by omega)
theorem cnt_keep (xs : List (List UInt8)) (i : Nat) : ∀ (m k : Nat), posN xs ≤ i + 1 + k → k + m + 1 ≤ posN xs → (cnt xs (k + m)).getD i 0 = (cnt xs k).getD i 0
  | 0, k, _, _ => rfl
  | m + 1, k, h1, h2 => by
    rw [show k + (m + 1) = (k + m) + 1 by omega, cnt, getD_set, if_neg (by omega)]
    exact cnt_keep xs i m k h1 (by omega)
theorem cnt_of (xs : List (List UInt8)) {i k : Nat} (h : posN xs ≤ i + 1 + k) (h2 : k + 1 ≤ posN xs) : (counts xs).getD i 0 = (cnt xs k).getD i 0 := by
  have := cnt_keep xs i (posN xs - 1 - k) k h (by omega)
  rw [show k + (posN xs - 1 - k) = posN xs - 1 by omega] at this
  exact this
theorem cSum_congr {xs : List (List UInt8)} {tl tl' tc tc' : List Int} {p : Nat} {m : Int} (h1 : ∀ q, p < q → tl.getD q 0 = tl'.getD q 0) (h2 : ∀ q, p < q → tc.getD q 0 = tc'.getD q 0) (l : List UInt8) : cSum xs tl tc p m l = cSum xs tl' tc' p m l := by
  unfold cSum
  congr 1
  funext n c
  by_cases h : 0 < adv c xs p 1
  · rw [h1 _ (by omega), h2 _ (by omega)]
  · rw [if_neg (fun hh => h hh.1), if_neg (fun hh => h hh.1)]
theorem counts_at {xs : List (List UInt8)} {p : Nat} (hp : p + 1 < posN xs) : (counts xs).getD p 0 = cSum xs (tableOf xs) (counts xs) p ((tableOf xs).getD p 0) letters := by
  obtain ⟨k, hk⟩ : ∃ k, p = posN xs - 2 - k ∧ k + 2 ≤ posN xs := ⟨posN xs - 2 - p, by omega, by omega⟩
  rw [cnt_of xs (i := p) (k := k + 1) (by omega) (by omega), cnt, getD_set, if_pos ⟨hk.1, by rw [cnt_length]; omega⟩]
  obtain ⟨h1, h2⟩ := cnt_inv xs k (by omega)
  rw [← hk.1, cBest_sum h1 (h2 _ (by omega)), tab_at hp, ← best_congr (t := tabD xs k) (t' := tableOf xs) (fun q hq => (tab_of xs (by omega) (by omega)).symm)]
  exact cSum_congr (fun q hq => (tab_of xs (by omega) (by omega)).symm) (fun q hq => (cnt_of xs (by omega) (by omega)).symm) letters
theorem counts_last (xs : List (List UInt8)) : (counts xs).getD (posN xs - 1) 0 = 1 := by
  have h := posN_pos xs
  rw [cnt_of xs (k := 0) (by omega) (by omega), cnt, getD_set, if_pos ⟨rfl, by simp; omega⟩]

theorem tab_pos {xs : List (List UInt8)} (hv : validW xs = true) {p : Nat} (hp : p + 1 < posN xs) : 0 < (tableOf xs).getD p 0 := by
  obtain ⟨c, hc, hg⟩ := goes_ex hv hp
  obtain ⟨h0, h1⟩ := goes_iff.1 hg
  have := tab_bd xs (p + adv c xs p 1)
  omega
theorem pos_lt {xs : List (List UInt8)} {p : Nat} (hp : p < posN xs) (h : 0 < (tableOf xs).getD p 0) : p + 1 < posN xs := by
  rcases Nat.lt_or_ge (p + 1) (posN xs) with h1 | h1
  · exact h1
  · have e : p = posN xs - 1 := by omega
    rw [e, tab_last] at h; omega
theorem cut1 {j : Nat} (h : j < 8) : (letters.take (((j : Nat) : Int) + 1).toNat).drop ((j : Nat) : Int).toNat = [letters.getD j 0] := by
  have : ∀ j : Fin 8, (letters.take ((((j.1 : Nat) : Int) + 1).toNat)).drop ((j.1 : Nat) : Int).toNat = [letters.getD j.1 0] := by decide
  exact this ⟨j, h⟩
theorem restW_nil (s : List UInt8) : restW s [] = [] := by
  induction s with
  | nil => rfl
  | cons c s ih => exact ih
theorem restW_step {s r : List UInt8} {i : Nat} (hi : i < s.length) : restW (s.drop i) r = restW (s.drop (i + 1)) (if r.head? = some (s.getD i 0) then r.tail else r) := by
  rw [List.drop_eq_getElem_cons hi]
  have : s[i] = s.getD i 0 := by simp [hi]
  rw [this]; rfl
theorem cSum_next {xs : List (List UInt8)} {tl tc : List Int} {p j : Nat} {m : Int} (h : j < 8) : cSum xs tl tc p m (letters.take (j + 1)) = if 0 < adv (letters.getD j 0) xs p 1 ∧ tl.getD (p + adv (letters.getD j 0) xs p 1) 0 + 1 = m then IntKind.i64.wrap (cSum xs tl tc p m (letters.take j) + tc.getD (p + adv (letters.getD j 0) xs p 1) 0) else cSum xs tl tc p m (letters.take j) := by
  rw [List.take_succ_eq_append_getElem (show j < letters.length from h)]
  have h' : j < letters.length := h
  have : letters[j]'h' = letters.getD j 0 := by simp [h']
  rw [this, cSum_snoc]
def kI (p : Nat) : Value := .int .i64 p
theorem kI_ok {ok : Nat → Prop} : KeyOk Tryd.prog 3 kI ok := KeyOk.one Tryd.underlying3 (fun _ => rfl) (fun a b h => by unfold kI at h; injection h with _ h; omega) (fun k => by simp [kI, Instr.sameBits])
/-- what a count's closures hold -/
structure CE (xs : List (List UInt8)) (A : Option Addr) (c bm bt bl bf b bT : Nat) (R : List Ent) : Prop where
  m : Ent.c bm 97 [.map (some b)] ∈ R
  t : Ent.c bt 34 [.slice (some ⟨bT, 0, none⟩) (posN xs) (posN xs)] ∈ R
  l : Ent.c bl 22 [.slice A xs.length c] ∈ R
  f : Ent.c bf 99 [.func (.func 70) #[] #[.pointer (some ⟨bm, 0, none⟩), .pointer (some ⟨bt, 0, none⟩), .pointer (some ⟨bl, 0, none⟩), .pointer (some ⟨bf, 0, none⟩)]] ∈ R
  T : Ent.c bT 3 (I (tableOf xs)) ∈ R
theorem CE.mono {xs : List (List UInt8)} {A : Option Addr} {c bm bt bl bf b bT : Nat} {R R' : List Ent} (h : CE xs A c bm bt bl bf b bT R) (hs : ∀ x ∈ R, x ∈ R') : CE xs A c bm bt bl bf b bT R' :=
  ⟨hs _ h.m, hs _ h.t, hs _ h.l, hs _ h.f, hs _ h.T⟩
def cV (xs : List (List UInt8)) (p : Nat) : Value := .int .i64 ((counts xs).getD p 0)

theorem remember_spec (w : World) : Calls Tryd.prog 69 #[] w fun e w' => ∃ v D, e = .returned v ∧ St w D w' ∧ ∃ b, v = .agg #[.map (some b)] ∧ D = [.m b [] 0] := by
  refine calls (args := []) Tryd.func69 rfl Tryd.ntmps69 (Nat.le_of_ble_eq_true rfl) (St.refl w) ?_
  refine J_seq ?_
  refine J_region ?_
  refine V_alloc (.n _) Tryd.zeroValue97 rfl rfl (fun _ => trivial) (fun b0 => ?_)   -- 0.0
  refine V_sub [(0, _)] ⟨rfl, trivial⟩ ?_
  refine V_nil (.inl rfl) ?_
  refine E_then ?_
  refine J_seq ?_
  refine J_region ?_
  refine V_mkm (.n _) rfl (fun _ => trivial) (fun b1 => ?_)   -- 1.0
  refine V_build (zs := [.map none]) (pl := [(0, 1)]) (.n _) (Pls.struct Tryd.underlying97 Tryd.zeroValue97 rfl rfl (by intro i f x hf hx; match i, hf, hx with | 0, hf, hx => cases hf; cases hx; exact ⟨rfl, Tryd.sizeOf95⟩)) (.cons rfl rfl rfl rfl rfl (.cons .z .nil) .nil) rfl ?_   -- 1.1
  refine V_stN (us := [.map (some b1)]) (.n _) Tryd.sizeOf97 rfl rfl rfl (by simp [Value.oneCell']) (by repeat (first | exact SetAt.z | apply SetAt.s)) rfl rfl ?_   -- 1.2
  refine V_sub [(0, _)] ⟨rfl, trivial⟩ ?_
  refine V_nil (.inl rfl) ?_
  refine E_then ?_
  refine J_ret ?_
  -- return R0
  refine E_rets (rs := [.cell 0 97]) Tryd.results69 (.c rfl Tryd.isAgg97 Tryd.sizeOf97 (by repeat (first | exact List.Mem.head _ | assumption | apply List.Mem.tail)) rfl .nil) rfl (fun w hw => ?_)
  exact ⟨_, _, rfl, hw.sublist (by simp), b1, rfl, rfl⟩

theorem countof_spec (xs : List (List UInt8)) (w0 : World) (k : Nat) (b : Nat) (cap : Array Value) (R : List Ent) (hok : (fun p => p < posN xs) k)
    (hfind : ∀ (R' : List Ent) (es : List MapEntry) (clk : Nat) (w : World), (∀ x ∈ R, x ∈ R') → Memo (kI) (cV xs) (fun p => p < posN xs) es → St w0 (.m b es clk :: R') w →
      Calls Tryd.prog 72 cap w fun e w' => ∃ es' clk', e = .returned ((cV xs) k) ∧ Memo (kI) (cV xs) (fun p => p < posN xs) es' ∧ St w0 (.m b es' clk' :: R') w')
    (es : List MapEntry) (clk : Nat) (w : World) (hes : Memo (kI) (cV xs) (fun p => p < posN xs) es) (hst : St w0 (.m b es clk :: R) w) :
    Calls Tryd.prog 71 #[.agg #[.map (some b)], (kI) k, .func (.func 72) #[] cap] w fun e w' => ∃ es' clk', e = .returned ((cV xs) k) ∧ Memo (kI) (cV xs) (fun p => p < posN xs) es' ∧ St w0 (.m b es' clk' :: R) w' := by
  refine calls (args := [.agg #[.map (some b)], (kI) k, .func (.func 72) #[] cap]) Tryd.func71 rfl Tryd.ntmps71 (Nat.le_of_ble_eq_true rfl) hst ?_
  refine J_seq ?_
  refine J_region ?_
  refine V_box (.n _) rfl rfl rfl (fun _ => trivial) (fun b3 => ?_)   -- 0.0
  refine V_asg (.n _) rfl rfl ?_   -- 0.1
  refine V_sub [(0, _), (1, _), (2, _), (3, _), (6, _)] ⟨rfl, rfl, rfl, rfl, rfl, trivial⟩ ?_
  refine V_nil (.inl rfl) ?_
  refine E_then ?_
  refine J_seq ?_
  refine J_seq ?_
  refine J_region ?_
  first | refine V_fa0 (.n _) fo97_0 rfl rfl ?_ | refine V_faz (.n _) fo97_0 rfl rfl ?_ | refine V_fa (.n _) fo97_0 rfl rfl ?_   -- 1.0
  refine V_ld (.n _) Tryd.isAgg95 rfl (by repeat (first | exact List.Mem.head _ | assumption | apply List.Mem.tail)) (by rfl) rfl ?_   -- 1.1
  refine V_mov (.n _) rfl rfl ?_   -- 1.2
  refine V_lookM (kv := kI) (fv := cV xs) (ok := fun p => p < posN xs) (k := k) (.n _) Tryd.underlying95 kI_ok hok Tryd.zeroValue3 rfl rfl (by repeat (first | exact List.Mem.head _ | assumption | apply List.Mem.tail)) hes rfl ?_ ?_
  · skip
    refine V_mov (.n _) rfl rfl ?_   -- 1.4
    refine V_ext (.n _) rfl rfl rfl ?_   -- 1.5
    refine V_ext (.n _) rfl rfl rfl ?_   -- 1.6
    refine V_asg (.n _) rfl rfl ?_   -- 1.7
    refine V_asg (.n _) rfl rfl ?_   -- 1.8
    refine V_sub [(0, _), (1, _), (2, _), (3, _), (6, _), (7, _), (8, _)] ⟨rfl, rfl, rfl, rfl, rfl, rfl, rfl, trivial⟩ ?_
    refine V_nil (.inl rfl) ?_
    refine E_then ?_
    refine J_seq ?_
    refine J_region ?_
    refine V_mov (.n _) rfl rfl ?_   -- 2.0
    refine V_sub [(0, _), (1, _), (2, _), (3, _), (6, _), (7, _), (8, _), (17, _)] ⟨rfl, rfl, rfl, rfl, rfl, rfl, rfl, rfl, trivial⟩ ?_
    refine V_nil (.inl rfl) ?_
    refine E_then ?_
    refine J_condT rfl ?_
    refine J_seq ?_
    refine J_region ?_
    refine V_mov (.n _) rfl rfl ?_   -- 3.0
    refine V_asg (.n _) rfl rfl ?_   -- 3.1
    refine V_sub [(0, _), (1, _), (2, _), (3, _), (6, _), (7, _), (8, _), (17, _)] ⟨rfl, rfl, rfl, rfl, rfl, rfl, rfl, rfl, trivial⟩ ?_
    refine V_nil (.inl rfl) ?_
    refine E_then ?_
    refine J_ret ?_
    refine E_then_ret ?_
    -- return R0
    refine E_ret1 Tryd.results71 rfl (fun w hw => ?_)
    exact ⟨es, clk, rfl, hes, hw.sublist (by first | exact (List.Sublist.refl _).cons _ | exact ((List.Sublist.refl _).cons _).cons _ | exact ((List.Sublist.refl _).cons _).cons_cons _ | exact (((List.Sublist.refl _).cons _).cons _).cons_cons _)⟩
  · skip
    refine V_mov (.n _) rfl rfl ?_   -- 1.4
    refine V_ext (.n _) rfl rfl rfl ?_   -- 1.5
    refine V_ext (.n _) rfl rfl rfl ?_   -- 1.6
    refine V_asg (.n _) rfl rfl ?_   -- 1.7
    refine V_asg (.n _) rfl rfl ?_   -- 1.8
    refine V_sub [(0, _), (1, _), (2, _), (3, _), (6, _), (7, _), (8, _)] ⟨rfl, rfl, rfl, rfl, rfl, rfl, rfl, trivial⟩ ?_
    refine V_nil (.inl rfl) ?_
    refine E_then ?_
    refine J_seq ?_
    refine J_region ?_
    refine V_mov (.n _) rfl rfl ?_   -- 2.0
    refine V_sub [(0, _), (1, _), (2, _), (3, _), (6, _), (7, _), (8, _), (17, _)] ⟨rfl, rfl, rfl, rfl, rfl, rfl, rfl, rfl, trivial⟩ ?_
    refine V_nil (.inl rfl) ?_
    refine E_then ?_
    refine J_condF rfl ?_
    refine J_skip ?_
    refine E_then ?_
    refine J_seq ?_
    refine J_region ?_
    refine V_mov (.n _) rfl rfl ?_   -- 4.0
    refine V_callC (post := fun v G' => ∃ es' clk', v = (cV xs) k ∧ Memo (kI) (cV xs) (fun p => p < posN xs) es' ∧ G' = .m b es' clk' :: .c b3 97 [.map (some b)] :: R) (.n _) Tryd.call72 rfl .nil (fun w1 hw1 => by
      have h := hfind (.c b3 97 [.map (some b)] :: R) es clk w1 (fun x hx => List.mem_cons_of_mem _ hx) hes (hw1.perm (List.Perm.swap _ _ _))
      simp only [List.nil_append, Array.empty_append, List.append_nil, Array.append_empty] at h ⊢
      exact h.mono fun e w2 ⟨es', clk', he, hm, hs⟩ => ⟨_, _, he, hs, es', clk', rfl, hm, rfl⟩) rfl ?_
    rintro v G' ⟨es', clk', rfl, hes', rfl⟩
    refine V_asg (.n _) rfl rfl ?_   -- 4.2
    refine V_sub [(0, _), (1, _), (2, _), (3, _), (6, _), (7, _), (8, _), (9, _), (17, _)] ⟨rfl, rfl, rfl, rfl, rfl, rfl, rfl, rfl, rfl, trivial⟩ ?_
    refine V_nil (.inl rfl) ?_
    refine E_then ?_
    refine J_seq ?_
    refine J_region ?_
    first | refine V_fa0 (.n _) fo97_0 rfl rfl ?_ | refine V_faz (.n _) fo97_0 rfl rfl ?_ | refine V_fa (.n _) fo97_0 rfl rfl ?_   -- 5.0
    refine V_ld (.n _) Tryd.isAgg95 rfl (by repeat (first | exact List.Mem.head _ | assumption | apply List.Mem.tail)) (by rfl) rfl ?_   -- 5.1
    refine V_mov (.n _) rfl rfl ?_   -- 5.2
    refine V_mov (.n _) rfl rfl ?_   -- 5.3
    refine V_setM (kv := kI) (fv := cV xs) (ok := fun p => p < posN xs) (k := k) (G1 := []) (.n _) Tryd.underlying95 kI_ok rfl rfl rfl rfl hes' hok (fun es2 clk2 hes2 => ?_)   -- 5.4
    refine V_sub [(0, _), (1, _), (2, _), (3, _), (6, _), (7, _), (8, _), (9, _), (17, _)] ⟨rfl, rfl, rfl, rfl, rfl, rfl, rfl, rfl, rfl, trivial⟩ ?_
    refine V_nil (.inl rfl) ?_
    refine E_then ?_
    refine J_seq ?_
    refine J_region ?_
    refine V_mov (.n _) rfl rfl ?_   -- 6.0
    refine V_asg (.n _) rfl rfl ?_   -- 6.1
    refine V_sub [(0, _), (1, _), (2, _), (3, _), (6, _), (7, _), (8, _), (9, _), (17, _)] ⟨rfl, rfl, rfl, rfl, rfl, rfl, rfl, rfl, rfl, trivial⟩ ?_
    refine V_nil (.inl rfl) ?_
    refine E_then ?_
    refine J_ret ?_
    -- return R1
    refine E_ret1 Tryd.results71 rfl (fun w hw => ?_)
    exact ⟨es2, clk2, rfl, hes2, hw.sublist (by first | exact (List.Sublist.refl _).cons _ | exact ((List.Sublist.refl _).cons _).cons _ | exact ((List.Sublist.refl _).cons _).cons_cons _ | exact (((List.Sublist.refl _).cons _).cons _).cons_cons _)⟩

theorem countbody_spec (w0 : World) (A : Option Addr) (c : Nat) (xs : List (List UInt8)) (hv : validW xs = true) (hr : Rd w0 A (Ss xs)) (bm bt bl bf b bT b5 p : Nat) (hp : p < posN xs) (R : List Ent) (hE : CE xs A c bm bt bl bf b bT R) (h5 : Ent.c b5 3 [.int .i64 p] ∈ R)
    (ih : ∀ q, p < q → q < posN xs → ∀ (R' : List Ent) (es : List MapEntry) (clk : Nat) (w : World), (∀ x ∈ R, x ∈ R') → Memo kI (cV xs) (fun p => p < posN xs) es → St w0 (.m b es clk :: R') w →
      Calls Tryd.prog 70 #[.int .i64 q, .pointer (some ⟨bm, 0, none⟩), .pointer (some ⟨bt, 0, none⟩), .pointer (some ⟨bl, 0, none⟩), .pointer (some ⟨bf, 0, none⟩)] w fun e w' => ∃ es' clk', e = .returned (cV xs q) ∧ Memo kI (cV xs) (fun p => p < posN xs) es' ∧ St w0 (.m b es' clk' :: R') w')
    (es : List MapEntry) (clk : Nat) (w : World) (hes : Memo kI (cV xs) (fun p => p < posN xs) es) (hst : St w0 (.m b es clk :: R) w) :
    Calls Tryd.prog 72 #[.pointer (some ⟨b5, 0, none⟩), .pointer (some ⟨bt, 0, none⟩), .pointer (some ⟨bl, 0, none⟩), .pointer (some ⟨bf, 0, none⟩)] w fun e w' => ∃ es' clk', e = .returned (cV xs p) ∧ Memo kI (cV xs) (fun p => p < posN xs) es' ∧ St w0 (.m b es' clk' :: R) w' := by
  obtain ⟨hEm, hEt, hEl, hEf, hET⟩ := hE
  have hN := posN_le hv
  have hN0 := posN_pos xs
  have hlen : (tableOf xs).length = posN xs := tabD_length _ _
  refine calls (args := [.pointer (some ⟨b5, 0, none⟩), .pointer (some ⟨bt, 0, none⟩), .pointer (some ⟨bl, 0, none⟩), .pointer (some ⟨bf, 0, none⟩)]) Tryd.func72 rfl Tryd.ntmps72 (Nat.le_of_ble_eq_true rfl) hst ?_
  refine J_seq ?_
  refine J_region ?_
  refine V_asg (.n _) rfl rfl ?_   -- 0.0
  refine V_sub [(0, _), (1, _), (2, _), (3, _), (4, _)] ⟨rfl, rfl, rfl, rfl, rfl, trivial⟩ ?_
  refine V_nil (.inl rfl) ?_
  refine E_then ?_
  refine J_seq ?_
  refine J_seq ?_
  refine J_region ?_
  refine V_ld (.n _) Tryd.isAgg3 rfl (by repeat (first | exact List.Mem.head _ | assumption | apply List.Mem.tail)) (by rfl) rfl ?_   -- 1.0
  refine V_ld (.n _) Tryd.isAgg34 rfl (by repeat (first | exact List.Mem.head _ | assumption | apply List.Mem.tail)) (by rfl) rfl ?_   -- 1.1
  refine V_len (.n _) Tryd.underlying34 rfl rfl ?_   -- 1.2
  refine V_sub1 (.n _) rfl rfl (wrap_ok (by omega)) rfl ?_   -- 1.3
  refine V_eql (.n _) rfl rfl rfl ?_   -- 1.4
  refine V_sub [(0, _), (1, _), (2, _), (3, _), (4, _), (14, _)] ⟨rfl, rfl, rfl, rfl, rfl, rfl, trivial⟩ ?_
  refine V_nil (.inl rfl) ?_
  refine E_then ?_
  refine J_cond rfl (fun h1 => ?_) (fun h1 => ?_)   -- C0
  · obtain rfl : p = posN xs - 1 := by omega
    refine J_seq ?_
    refine J_region ?_
    refine V_asg (.n _) rfl rfl ?_   -- 2.0
    refine V_sub [(0, _), (1, _), (2, _), (3, _), (4, _), (14, _)] ⟨rfl, rfl, rfl, rfl, rfl, rfl, trivial⟩ ?_
    refine V_nil (.inl rfl) ?_
    refine E_then ?_
    refine J_ret ?_
    refine E_then_ret ?_
    -- return R0
    refine E_ret1 Tryd.results72 rfl (fun w hw => ?_)
    exact ⟨es, clk, by rw [cV, counts_last], hes, hw⟩
  · skip
    refine J_skip ?_
    refine E_then ?_
    refine J_seq ?_
    refine J_region ?_
    refine V_asg (.n _) rfl rfl ?_   -- 3.0
    refine V_sub [(0, _), (1, _), (2, _), (3, _), (4, _), (5, _), (14, _)] ⟨rfl, rfl, rfl, rfl, rfl, rfl, rfl, trivial⟩ ?_
    refine V_nil (.inl rfl) ?_
    refine E_then ?_
    refine J_seq ?_
    refine J_seq ?_
    refine J_region ?_
    refine V_lit (.n _) Tryd.underlying76 Tryd.sizeOf5 Tryd.zeroValue5 (.cons rfl rfl rfl (.cons rfl rfl rfl (.cons rfl rfl rfl (.cons rfl rfl rfl (.cons rfl rfl rfl (.cons rfl rfl rfl (.cons rfl rfl rfl (.cons rfl rfl rfl .nil)))))))) rfl rfl rfl (fun _ => trivial) (fun b15 => ?_)   -- 4.0
    refine V_mark (.n _) Tryd.underlying76 Tryd.underlying5 rfl (by repeat (first | exact SetAt.z | apply SetAt.s)) rfl ?_   -- 4.1
    refine V_len (.n _) Tryd.underlying76 rfl rfl ?_   -- 4.2
    refine V_mov (.n _) rfl rfl ?_   -- 4.3
    refine V_sub [(0, _), (1, _), (2, _), (3, _), (4, _), (5, _), (14, _), (16, _), (17, _), (18, _)] ⟨rfl, rfl, rfl, rfl, rfl, rfl, rfl, rfl, rfl, rfl, trivial⟩ ?_
    refine V_nil (.inl rfl) ?_
    refine E_then ?_
    refine J_block ?_
    -- loop L0
    refine J_loop (X := Nat × List MapEntry × Nat) (fun x => [(0, (.pointer (some ⟨b5, 0, none⟩))), (1, (.pointer (some ⟨bt, 0, none⟩))), (2, (.pointer (some ⟨bl, 0, none⟩))), (3, (.pointer (some ⟨bf, 0, none⟩))), (4, (.int .i64 (0))), (5, .int .i64 (cSum xs (tableOf xs) (counts xs) p ((tableOf xs).getD p 0) (letters.take x.1))), (16, (.slice (some ⟨b15, 0, none⟩) 8 8)), (17, .int .i64 8), (18, .int .i64 (x.1 : Nat))]) (fun x => .f b15 5 (By letters) (8, 9) :: .m b x.2.1 x.2.2 :: R) (fun x => x.1 ≤ 8 ∧ Memo kI (cV xs) (fun p => p < posN xs) x.2.1) (fun x => 8 - x.1) (0, es, clk) (by refine ⟨?_, ?_, ?_, ?_, ?_, ?_, ?_, ?_, ?_, trivial⟩ <;> first | rfl | exact int_eq (by omega)) (fun w h => h) ?_ ?_
    · exact ⟨by omega, hes⟩
    · rintro ⟨j, es1, clk1⟩ ⟨hj, hes1⟩
      dsimp only at hj hes1 ⊢
      refine J_seq ?_
      refine J_region ?_
      refine V_lss (.n _) rfl rfl rfl ?_   -- 5.0
      refine V_sub [(0, _), (1, _), (2, _), (3, _), (4, _), (5, _), (16, _), (17, _), (18, _), (19, _)] ⟨rfl, rfl, rfl, rfl, rfl, rfl, rfl, rfl, rfl, rfl, trivial⟩ ?_
      refine V_nil (.inl rfl) ?_
      refine E_then ?_
      refine J_seq ?_
      refine J_cond rfl (fun h2 => ?_) (fun h2 => ?_)   -- C1
      · skip
        refine J_skip ?_
        refine E_then ?_
        refine J_seq ?_
        refine J_block ?_
        refine J_seq ?_
        refine J_region ?_
        refine V_ix (.n _) Tryd.underlying76 Tryd.sizeOf5 rfl rfl (by omega) (by omega) rfl ?_   -- 6.0
        refine V_ldf (.n _) Tryd.isAgg5 rfl (by repeat (first | exact List.Mem.head _ | assumption | apply List.Mem.tail)) (By_getN (xs := letters) (by show j < 8; omega)) rfl ?_   -- 6.1
        refine V_asg (.n _) rfl rfl ?_   -- 6.2
        refine V_sub [(0, _), (1, _), (2, _), (3, _), (4, _), (5, _), (7, _), (16, _), (17, _), (18, _), (19, _)] ⟨rfl, rfl, rfl, rfl, rfl, rfl, rfl, rfl, rfl, rfl, rfl, trivial⟩ ?_
        refine V_nil (.inl rfl) ?_
        refine E_then ?_
        refine J_seq ?_
        refine J_region ?_
        refine V_ld (.n _) Tryd.isAgg22 rfl (by repeat (first | exact List.Mem.head _ | assumption | apply List.Mem.tail)) (by rfl) rfl ?_   -- 7.0
        refine V_ld (.n _) Tryd.isAgg3 rfl (by repeat (first | exact List.Mem.head _ | assumption | apply List.Mem.tail)) (by rfl) rfl ?_   -- 7.1
        refine V_mov (.n _) rfl rfl ?_   -- 7.2
        refine V_call0 (.n _) Tryd.call52 (.cons rfl (.cons rfl (.cons rfl .nil))) (fun w1 hw1 => after_spec w1 A c xs p (letters.getD j 0) hv (by omega) (hr.keep hw1)) rfl trivial ?_   -- 7.3
        have hal := adv_lt hp (letters.getD j 0)
        have hnx := cSum_next (xs := xs) (tl := tableOf xs) (tc := counts xs) (p := p) (m := (tableOf xs).getD p 0) (show j < 8 by omega)
        have hb1 := tab_bd xs (p + adv (letters.getD j 0) xs p 1)
        have hb2 := tab_bd xs p
        have hfar : far = 1099511627776 := rfl
        generalize hcc : letters.getD j 0 = cc at *
        refine V_mov (.n _) rfl rfl ?_   -- 7.4
        refine V_ext (.n _) rfl rfl rfl ?_   -- 7.5
        refine V_ext (.n _) rfl rfl rfl ?_   -- 7.6
        refine V_asg (.n _) rfl rfl ?_   -- 7.7
        refine V_asg (.n _) rfl rfl ?_   -- 7.8
        refine V_sub [(0, _), (1, _), (2, _), (3, _), (4, _), (5, _), (7, _), (8, _), (9, _), (16, _), (17, _), (18, _), (19, _)] ⟨rfl, rfl, rfl, rfl, rfl, rfl, rfl, rfl, rfl, rfl, rfl, rfl, rfl, trivial⟩ ?_
        refine V_nil (.inl rfl) ?_
        refine E_then ?_
        refine J_seq ?_
        refine J_draw (Gs := _) (cl := [.p, .p, .r, .p, .p, .r, .r, .r, .p, .r, .p, .p, .p]) (by kernel_rfl) (fun _ _ h => h) ?_
        refine V_mov (.s _ _ _) rfl rfl ?_   -- 8.0
        refine V_mov (.s _ _ _) rfl rfl ?_   -- 8.1
        refine V_split 30 rfl (fun h3 => ?_) (fun h3 => ?_)   -- guard 8.1
        · skip
          refine V_go (1, true) rfl ?_
          refine V_ld (.s _ _ _) Tryd.isAgg34 rfl (by repeat (first | exact List.Mem.head _ | assumption | apply List.Mem.tail)) (by rfl) rfl ?_   -- 8.2
          refine V_go (1, true) rfl ?_
          refine V_mov (.s _ _ _) rfl rfl ?_   -- 8.3
          refine V_go (1, true) rfl ?_
          refine V_ix (.s _ _ _) Tryd.underlying34 Tryd.sizeOf3 rfl rfl (by omega) (by omega) rfl ?_   -- 8.4
          refine V_go (1, true) rfl ?_
          refine V_ld (.s _ _ _) Tryd.isAgg3 rfl (by repeat (first | exact List.Mem.head _ | assumption | apply List.Mem.tail)) (I_getN (xs := tableOf xs) (i := p + adv cc xs p 1) (by omega)) rfl ?_   -- 8.5
          refine V_go (1, true) rfl ?_
          refine V_ld (.s _ _ _) Tryd.isAgg34 rfl (by repeat (first | exact List.Mem.head _ | assumption | apply List.Mem.tail)) (by rfl) rfl ?_   -- 8.6
          refine V_go (1, true) rfl ?_
          refine V_ld (.s _ _ _) Tryd.isAgg3 rfl (by repeat (first | exact List.Mem.head _ | assumption | apply List.Mem.tail)) (by rfl) rfl ?_   -- 8.7
          refine V_go (1, true) rfl ?_
          refine V_ix (.s _ _ _) Tryd.underlying34 Tryd.sizeOf3 rfl rfl (by omega) (by omega) rfl ?_   -- 8.8
          refine V_go (1, true) rfl ?_
          refine V_ld (.s _ _ _) Tryd.isAgg3 rfl (by repeat (first | exact List.Mem.head _ | assumption | apply List.Mem.tail)) (I_getN (xs := tableOf xs) (i := p) (by omega)) rfl ?_   -- 8.9
          refine V_go (1, true) rfl ?_
          refine V_sub1 (.s _ _ _) rfl rfl (wrap_ok (by omega)) rfl ?_   -- 8.10
          refine V_go (1, true) rfl ?_
          refine V_eql (.s _ _ _) rfl rfl rfl ?_   -- 8.11
          refine V_pickT (.s _ _ _) rfl rfl rfl ?_   -- 8.12
          refine V_sub [(0, _), (1, _), (2, _), (3, _), (4, _), (5, _), (7, _), (8, _), (9, _), (16, _), (17, _), (18, _), (19, _), (41, _)] ⟨rfl, rfl, rfl, rfl, rfl, rfl, rfl, rfl, rfl, rfl, rfl, rfl, rfl, rfl, trivial⟩ ?_
          refine V_nil (.inr ⟨_, rfl⟩) ?_
          refine E_then ?_
          refine J_cond rfl (fun h4 => ?_) (fun h4 => ?_)   -- C2
          · skip
            refine J_region ?_
            refine V_mov (.n _) rfl rfl ?_   -- 9.0
            refine V_ld (.n _) Tryd.isAgg99 rfl (by repeat (first | exact List.Mem.head _ | assumption | apply List.Mem.tail)) (by rfl) rfl ?_   -- 9.1
            refine V_mov (.n _) rfl rfl ?_   -- 9.2
            refine V_callC (post := fun v G' => ∃ es' clk', v = cV xs (p + adv cc xs p 1) ∧ Memo kI (cV xs) (fun p => p < posN xs) es' ∧ G' = .m b es' clk' :: .f b15 5 (By letters) (8, 9) :: R) (.n _) Tryd.call70 rfl (.cons rfl .nil) (fun w1 hw1 => by
              have h := ih (p + adv cc xs p 1) (by omega) hal (.f b15 5 (By letters) (8, 9) :: R) es1 clk1 w1 (fun x hx => List.mem_cons_of_mem _ hx) hes1 (hw1.perm (List.Perm.swap _ _ _))
              exact h.mono fun e w2 ⟨es', clk', he, hm, hs⟩ => ⟨_, _, he, hs, es', clk', rfl, hm, rfl⟩) rfl ?_
            rintro v G' ⟨es2, clk2, rfl, hes2, rfl⟩
            refine V_addw (.n _) rfl rfl rfl ?_   -- 9.4
            refine V_asg (.n _) rfl rfl ?_   -- 9.5
            refine V_sub [(0, _), (1, _), (2, _), (3, _), (4, _), (5, _), (7, _), (8, _), (9, _), (16, _), (17, _), (18, _), (19, _), (41, _)] ⟨rfl, rfl, rfl, rfl, rfl, rfl, rfl, rfl, rfl, rfl, rfl, rfl, rfl, rfl, trivial⟩ ?_
            refine V_nil (.inl rfl) ?_
            refine E_blk ?_
            refine E_then ?_
            refine J_region ?_
            refine V_add (.n _) rfl rfl (wrap_ok (by omega)) rfl ?_   -- 10.0
            refine V_mov (.n _) rfl rfl ?_   -- 10.1
            refine V_sub [(0, _), (1, _), (2, _), (3, _), (4, _), (5, _), (7, _), (8, _), (9, _), (16, _), (17, _), (18, _), (19, _), (41, _)] ⟨rfl, rfl, rfl, rfl, rfl, rfl, rfl, rfl, rfl, rfl, rfl, rfl, rfl, rfl, trivial⟩ ?_
            refine V_nil (.inl rfl) ?_
            -- again L0 0
            have hnx2 := hnx.trans (if_pos ⟨by assumption, by omega⟩)
            refine E_again (X := Nat × List MapEntry × Nat) (KI := fun x => [(0, (.pointer (some ⟨b5, 0, none⟩))), (1, (.pointer (some ⟨bt, 0, none⟩))), (2, (.pointer (some ⟨bl, 0, none⟩))), (3, (.pointer (some ⟨bf, 0, none⟩))), (4, (.int .i64 (0))), (5, .int .i64 (cSum xs (tableOf xs) (counts xs) p ((tableOf xs).getD p 0) (letters.take x.1))), (16, (.slice (some ⟨b15, 0, none⟩) 8 8)), (17, .int .i64 8), (18, .int .i64 (x.1 : Nat))]) (GI := fun x => .f b15 5 (By letters) (8, 9) :: .m b x.2.1 x.2.2 :: R) (I := fun x => x.1 ≤ 8 ∧ Memo kI (cV xs) (fun p => p < posN xs) x.2.1) (μ := fun x => 8 - x.1) (x := (j, es1, clk1)) ((j + 1, es2, clk2)) ?_ ?_ ?_ (fun w h => h.perm (List.Perm.swap _ _ _))
            · show 8 - (j + 1) < 8 - j; omega
            · exact ⟨by dsimp only; omega, hes2⟩
            · refine ⟨rfl, rfl, rfl, rfl, rfl, ?_, rfl, rfl, ?_, trivial⟩ <;> first | exact int_eq hnx2.symm | exact int_eq (by dsimp only; omega)
          · skip
            refine J_skip ?_
            refine E_blk ?_
            refine E_then ?_
            refine J_region ?_
            refine V_add (.n _) rfl rfl (wrap_ok (by omega)) rfl ?_   -- 10.0
            refine V_mov (.n _) rfl rfl ?_   -- 10.1
            refine V_sub [(0, _), (1, _), (2, _), (3, _), (4, _), (5, _), (7, _), (8, _), (9, _), (16, _), (17, _), (18, _), (19, _), (41, _)] ⟨rfl, rfl, rfl, rfl, rfl, rfl, rfl, rfl, rfl, rfl, rfl, rfl, rfl, rfl, trivial⟩ ?_
            refine V_nil (.inl rfl) ?_
            -- again L0 1
            have hnx2 := hnx.trans (if_neg (fun hh => by first | exact absurd hh.1 (by assumption) | omega))
            refine E_again (X := Nat × List MapEntry × Nat) (KI := fun x => [(0, (.pointer (some ⟨b5, 0, none⟩))), (1, (.pointer (some ⟨bt, 0, none⟩))), (2, (.pointer (some ⟨bl, 0, none⟩))), (3, (.pointer (some ⟨bf, 0, none⟩))), (4, (.int .i64 (0))), (5, .int .i64 (cSum xs (tableOf xs) (counts xs) p ((tableOf xs).getD p 0) (letters.take x.1))), (16, (.slice (some ⟨b15, 0, none⟩) 8 8)), (17, .int .i64 8), (18, .int .i64 (x.1 : Nat))]) (GI := fun x => .f b15 5 (By letters) (8, 9) :: .m b x.2.1 x.2.2 :: R) (I := fun x => x.1 ≤ 8 ∧ Memo kI (cV xs) (fun p => p < posN xs) x.2.1) (μ := fun x => 8 - x.1) (x := (j, es1, clk1)) ((j + 1, es1, clk1)) ?_ ?_ ?_ (fun w h => h)
            · show 8 - (j + 1) < 8 - j; omega
            · exact ⟨by dsimp only; omega, hes1⟩
            · refine ⟨?_, ?_, ?_, ?_, ?_, ?_, ?_, ?_, ?_, trivial⟩ <;> first | rfl | exact int_eq (by omega) | exact int_eq (by dsimp only; omega)
        · skip
          refine V_pass (.s _ _ _) (1, true) rfl rfl ?_   -- 8.2
          refine V_pass (.s _ _ _) (1, true) rfl rfl ?_   -- 8.3
          refine V_pass (.s _ _ _) (1, true) rfl rfl ?_   -- 8.4
          refine V_pass (.s _ _ _) (1, true) rfl rfl ?_   -- 8.5
          refine V_pass (.s _ _ _) (1, true) rfl rfl ?_   -- 8.6
          refine V_pass (.s _ _ _) (1, true) rfl rfl ?_   -- 8.7
          refine V_pass (.s _ _ _) (1, true) rfl rfl ?_   -- 8.8
          refine V_pass (.s _ _ _) (1, true) rfl rfl ?_   -- 8.9
          refine V_pass (.s _ _ _) (1, true) rfl rfl ?_   -- 8.10
          refine V_pass (.s _ _ _) (1, true) rfl rfl ?_   -- 8.11
          refine V_pickF (.s _ _ _) rfl rfl rfl ?_   -- 8.12
          refine V_sub [(0, _), (1, _), (2, _), (3, _), (4, _), (5, _), (7, _), (8, _), (9, _), (16, _), (17, _), (18, _), (19, _), (41, _)] ⟨rfl, rfl, rfl, rfl, rfl, rfl, rfl, rfl, rfl, rfl, rfl, rfl, rfl, rfl, trivial⟩ ?_
          refine V_nil (.inr ⟨_, rfl⟩) ?_
          refine E_then ?_
          refine J_condF rfl ?_
          refine J_skip ?_
          refine E_blk ?_
          refine E_then ?_
          refine J_region ?_
          refine V_add (.n _) rfl rfl (wrap_ok (by omega)) rfl ?_   -- 10.0
          refine V_mov (.n _) rfl rfl ?_   -- 10.1
          refine V_sub [(0, _), (1, _), (2, _), (3, _), (4, _), (5, _), (7, _), (8, _), (9, _), (16, _), (17, _), (18, _), (19, _), (41, _)] ⟨rfl, rfl, rfl, rfl, rfl, rfl, rfl, rfl, rfl, rfl, rfl, rfl, rfl, rfl, trivial⟩ ?_
          refine V_nil (.inl rfl) ?_
          -- again L0 2
          have hnx2 := hnx.trans (if_neg (fun hh => by first | exact absurd hh.1 (by assumption) | omega))
          refine E_again (X := Nat × List MapEntry × Nat) (KI := fun x => [(0, (.pointer (some ⟨b5, 0, none⟩))), (1, (.pointer (some ⟨bt, 0, none⟩))), (2, (.pointer (some ⟨bl, 0, none⟩))), (3, (.pointer (some ⟨bf, 0, none⟩))), (4, (.int .i64 (0))), (5, .int .i64 (cSum xs (tableOf xs) (counts xs) p ((tableOf xs).getD p 0) (letters.take x.1))), (16, (.slice (some ⟨b15, 0, none⟩) 8 8)), (17, .int .i64 8), (18, .int .i64 (x.1 : Nat))]) (GI := fun x => .f b15 5 (By letters) (8, 9) :: .m b x.2.1 x.2.2 :: R) (I := fun x => x.1 ≤ 8 ∧ Memo kI (cV xs) (fun p => p < posN xs) x.2.1) (μ := fun x => 8 - x.1) (x := (j, es1, clk1)) ((j + 1, es1, clk1)) ?_ ?_ ?_ (fun w h => h)
          · show 8 - (j + 1) < 8 - j; omega
          · exact ⟨by dsimp only; omega, hes1⟩
          · refine ⟨?_, ?_, ?_, ?_, ?_, ?_, ?_, ?_, ?_, trivial⟩ <;> first | rfl | exact int_eq (by omega) | exact int_eq (by dsimp only; omega)
      · skip
        refine J_exit ?_
        refine E_then_exit ?_
        refine E_lp_exit ?_
        refine E_blk_hit ?_
        refine E_then ?_
        refine J_seq ?_
        refine J_region ?_
        refine V_mov (.n _) rfl rfl ?_   -- 11.0
        refine V_asg (.n _) rfl rfl ?_   -- 11.1
        refine V_sub [(0, _), (1, _), (2, _), (3, _), (4, _), (5, _), (16, _), (17, _), (18, _), (19, _)] ⟨rfl, rfl, rfl, rfl, rfl, rfl, rfl, rfl, rfl, rfl, trivial⟩ ?_
        refine V_nil (.inl rfl) ?_
        refine E_then ?_
        refine J_ret ?_
        -- return R1
        refine E_ret1 Tryd.results72 rfl (fun w hw => ?_)
        obtain rfl : j = 8 := by omega
        exact ⟨es1, clk1, by rw [cV, counts_at (by omega)]; rfl, hes1, hw.sublist (by simp)⟩

theorem countfrom_one (w0 : World) (A : Option Addr) (c : Nat) (xs : List (List UInt8)) (hv : validW xs = true) (hr : Rd w0 A (Ss xs)) (bm bt bl bf b bT p : Nat) (hp : p < posN xs) (R : List Ent) (hE : CE xs A c bm bt bl bf b bT R)
    (ih : ∀ q, p < q → q < posN xs → ∀ (R' : List Ent) (es : List MapEntry) (clk : Nat) (w : World), (∀ x ∈ R, x ∈ R') → Memo kI (cV xs) (fun p => p < posN xs) es → St w0 (.m b es clk :: R') w →
      Calls Tryd.prog 70 #[.int .i64 q, .pointer (some ⟨bm, 0, none⟩), .pointer (some ⟨bt, 0, none⟩), .pointer (some ⟨bl, 0, none⟩), .pointer (some ⟨bf, 0, none⟩)] w fun e w' => ∃ es' clk', e = .returned (cV xs q) ∧ Memo kI (cV xs) (fun p => p < posN xs) es' ∧ St w0 (.m b es' clk' :: R') w')
    (es : List MapEntry) (clk : Nat) (w : World) (hes : Memo kI (cV xs) (fun p => p < posN xs) es) (hst : St w0 (.m b es clk :: R) w) :
    Calls Tryd.prog 70 #[.int .i64 p, .pointer (some ⟨bm, 0, none⟩), .pointer (some ⟨bt, 0, none⟩), .pointer (some ⟨bl, 0, none⟩), .pointer (some ⟨bf, 0, none⟩)] w fun e w' => ∃ es' clk', e = .returned (cV xs p) ∧ Memo kI (cV xs) (fun p => p < posN xs) es' ∧ St w0 (.m b es' clk' :: R) w' := by
  have hEm := hE.m
  refine calls (args := [.int .i64 p, .pointer (some ⟨bm, 0, none⟩), .pointer (some ⟨bt, 0, none⟩), .pointer (some ⟨bl, 0, none⟩), .pointer (some ⟨bf, 0, none⟩)]) Tryd.func70 rfl Tryd.ntmps70 (Nat.le_of_ble_eq_true rfl) hst ?_
  refine J_seq ?_
  refine J_region ?_
  refine V_box (.n _) rfl rfl rfl (fun _ => trivial) (fun b5 => ?_)   -- 0.0
  refine V_asg (.n _) rfl rfl ?_   -- 0.1
  refine V_sub [(0, _), (1, _), (2, _), (3, _), (4, _), (5, _), (6, _)] ⟨rfl, rfl, rfl, rfl, rfl, rfl, rfl, trivial⟩ ?_
  refine V_nil (.inl rfl) ?_
  refine E_then ?_
  refine J_seq ?_
  refine J_region ?_
  refine V_ldN (vs := [.map (some b)]) (.n _) Tryd.isAgg97 Tryd.sizeOf97 rfl (by repeat (first | exact List.Mem.head _ | assumption | apply List.Mem.tail)) rfl rfl rfl ?_   -- 1.0
  refine V_ld (.n _) Tryd.isAgg3 rfl (by repeat (first | exact List.Mem.head _ | assumption | apply List.Mem.tail)) (by rfl) rfl ?_   -- 1.1
  refine V_mkf (.n _) (.cons rfl (.cons rfl (.cons rfl (.cons rfl .nil)))) rfl ?_   -- 1.2
  refine V_callW (post := fun v G' => ∃ es' clk', v = cV xs p ∧ Memo kI (cV xs) (fun p => p < posN xs) es' ∧ G' = .m b es' clk' :: .c b5 3 [.int .i64 p] :: R) (.n _) Tryd.call71 (.cons rfl (.cons rfl (.cons rfl .nil))) (fun w1 hw1 => by
    have h := countof_spec xs w0 p b _ (.c b5 3 [.int .i64 p] :: R) hp (fun R' es clk w hsub hes hst => countbody_spec w0 A c xs hv hr bm bt bl bf b bT b5 p hp R' (hE.mono (fun x hx => hsub x (List.mem_cons_of_mem _ hx))) (hsub _ (List.Mem.head _)) (fun q h1 h2 R'' es clk w hs2 => ih q h1 h2 R'' es clk w (fun x hx => hs2 x (hsub x (List.mem_cons_of_mem _ hx)))) es clk w hes hst) es clk w1 hes (hw1.perm (List.Perm.swap _ _ _))
    exact h.mono fun e w2 ⟨es', clk', he, hm, hs⟩ => ⟨_, _, he, hs, es', clk', rfl, hm, rfl⟩) rfl ?_
  rintro v G' ⟨es2, clk2, rfl, hes2, rfl⟩
  refine V_asg (.n _) rfl rfl ?_   -- 1.4
  refine V_sub [(0, _), (1, _), (2, _), (3, _), (4, _), (5, _), (6, _)] ⟨rfl, rfl, rfl, rfl, rfl, rfl, rfl, trivial⟩ ?_
  refine V_nil (.inl rfl) ?_
  refine E_then ?_
  refine J_ret ?_
  -- return R0
  refine E_ret1 Tryd.results70 rfl (fun w hw => ?_)
  exact ⟨es2, clk2, rfl, hes2, hw.sublist (by simp)⟩


theorem countfrom_spec (w0 : World) (A : Option Addr) (c : Nat) (xs : List (List UInt8)) (hv : validW xs = true) (hr : Rd w0 A (Ss xs)) (bm bt bl bf b bT : Nat) : ∀ (k p : Nat), p + k + 1 = posN xs → ∀ (R : List Ent) (es : List MapEntry) (clk : Nat) (w : World), CE xs A c bm bt bl bf b bT R → Memo kI (cV xs) (fun p => p < posN xs) es → St w0 (.m b es clk :: R) w →
    Calls Tryd.prog 70 #[.int .i64 p, .pointer (some ⟨bm, 0, none⟩), .pointer (some ⟨bt, 0, none⟩), .pointer (some ⟨bl, 0, none⟩), .pointer (some ⟨bf, 0, none⟩)] w fun e w' => ∃ es' clk', e = .returned (cV xs p) ∧ Memo kI (cV xs) (fun p => p < posN xs) es' ∧ St w0 (.m b es' clk' :: R) w' := by
  intro k
  induction k using Nat.strongRecOn with
  | _ k ih =>
    intro p hp R es clk w hE hes hst
    exact countfrom_one w0 A c xs hv hr bm bt bl bf b bT p (by omega) R hE (fun q h1 h2 R' es clk w hsub => ih (posN xs - 1 - q) (by omega) q (by omega) R' es clk w (hE.mono hsub)) es clk w hes hst

theorem Count_no (w : World) (A : Option Addr) (c : Nat) (xs : List (List UInt8)) (hl : xs.length ≤ 140737488351232) (hr : Rd w A (Ss xs)) (hv : validW xs = false) :
    Calls Tryd.prog 29 #[.slice A xs.length c] w fun e w' => e = .returned (.tuple #[.int .i64 0, .int .i64 2]) ∧ St w [] w' := by
  refine calls (args := [.slice A xs.length c]) Tryd.func29 rfl Tryd.ntmps29 (Nat.le_of_ble_eq_true rfl) (St.refl w) ?_
  refine J_seq ?_
  refine J_region ?_
  refine V_box (.n _) rfl rfl rfl (fun _ => trivial) (fun b1 => ?_)   -- 0.0
  refine V_asg (.n _) rfl rfl ?_   -- 0.1
  refine V_asg (.n _) rfl rfl ?_   -- 0.2
  refine V_sub [(0, _), (1, _), (2, _), (3, _)] ⟨rfl, rfl, rfl, rfl, trivial⟩ ?_
  refine V_nil (.inl rfl) ?_
  refine E_then ?_
  refine J_seq ?_
  refine J_seq ?_
  refine J_region ?_
  refine V_ld (.n _) Tryd.isAgg22 rfl (by repeat (first | exact List.Mem.head _ | assumption | apply List.Mem.tail)) (by rfl) rfl ?_   -- 1.0
  refine V_call0 (.n _) Tryd.call50 (.cons rfl .nil) (fun w1 hw1 => valid_spec w1 A c xs hl (hr.keep hw1)) rfl trivial ?_   -- 1.1
  refine V_notB (.n _) rfl rfl ?_   -- 1.2
  refine V_sub [(0, _), (1, _), (2, _), (3, _), (9, _)] ⟨rfl, rfl, rfl, rfl, rfl, trivial⟩ ?_
  refine V_nil (.inl rfl) ?_
  refine E_then ?_
  refine J_condB rfl (fun h1 => ?_) (fun h1 => ?_)   -- C0
  · skip
    refine J_seq ?_
    refine J_region ?_
    refine V_asg (.n _) rfl rfl ?_   -- 2.0
    refine V_asg (.n _) rfl rfl ?_   -- 2.1
    refine V_sub [(0, _), (1, _), (2, _), (3, _), (9, _)] ⟨rfl, rfl, rfl, rfl, rfl, trivial⟩ ?_
    refine V_nil (.inl rfl) ?_
    refine E_then ?_
    refine J_ret ?_
    refine E_then_ret ?_
    -- return R0
    refine E_ret2 Tryd.results29 rfl rfl (fun w hw => ?_)
    exact ⟨rfl, hw.sublist (by simp)⟩
  · simp [hv] at h1

theorem Count_yes (w : World) (A : Option Addr) (c : Nat) (xs : List (List UInt8)) (hl : xs.length ≤ 140737488351232) (hr : Rd w A (Ss xs)) (hv : validW xs = true) :
    Calls Tryd.prog 29 #[.slice A xs.length c] w fun e w' => e = .returned (.tuple #[.int .i64 ((counts xs).getD 0 0), .int .i64 0]) ∧ St w [] w' := by
  have hN := posN_le hv
  have hN0 := posN_pos xs
  refine calls (args := [.slice A xs.length c]) Tryd.func29 rfl Tryd.ntmps29 (Nat.le_of_ble_eq_true rfl) (St.refl w) ?_
  refine J_seq ?_
  refine J_region ?_
  refine V_box (.n _) rfl rfl rfl (fun _ => trivial) (fun b1 => ?_)   -- 0.0
  refine V_asg (.n _) rfl rfl ?_   -- 0.1
  refine V_asg (.n _) rfl rfl ?_   -- 0.2
  refine V_sub [(0, _), (1, _), (2, _), (3, _)] ⟨rfl, rfl, rfl, rfl, trivial⟩ ?_
  refine V_nil (.inl rfl) ?_
  refine E_then ?_
  refine J_seq ?_
  refine J_seq ?_
  refine J_region ?_
  refine V_ld (.n _) Tryd.isAgg22 rfl (by repeat (first | exact List.Mem.head _ | assumption | apply List.Mem.tail)) (by rfl) rfl ?_   -- 1.0
  refine V_call0 (.n _) Tryd.call50 (.cons rfl .nil) (fun w1 hw1 => valid_spec w1 A c xs hl (hr.keep hw1)) rfl trivial ?_   -- 1.1
  refine V_notB (.n _) rfl rfl ?_   -- 1.2
  refine V_sub [(0, _), (1, _), (2, _), (3, _), (9, _)] ⟨rfl, rfl, rfl, rfl, rfl, trivial⟩ ?_
  refine V_nil (.inl rfl) ?_
  refine E_then ?_
  refine J_condB rfl (fun h1 => ?_) (fun h1 => ?_)   -- C0
  · simp [hv] at h1
  · skip
    refine J_skip ?_
    refine E_then ?_
    refine J_seq ?_
    refine J_region ?_
    refine V_ld (.n _) Tryd.isAgg22 rfl (by repeat (first | exact List.Mem.head _ | assumption | apply List.Mem.tail)) (by rfl) rfl ?_   -- 3.0
    refine V_call (post := fun v D => ∃ b, v = .slice (some ⟨b, 0, none⟩) (posN xs) (posN xs) ∧ D = [.c b 3 (I (tableOf xs))]) (.n _) Tryd.call51 (.cons rfl .nil) (fun w1 hw1 => table_spec w1 A c xs hv (hr.keep hw1)) rfl trivial ?_
    rintro v D ⟨bT, rfl, rfl⟩
    refine V_alloc (.n _) Tryd.zeroValue34 rfl rfl (fun _ => trivial) (fun b4 => ?_)   -- 3.2
    refine V_stF (.n _) Tryd.sizeOf34 rfl rfl rfl (by repeat (first | exact SetAt.z | apply SetAt.s)) (by repeat (first | exact LSet.z | apply LSet.s)) ?_   -- 3.3
    refine V_sub [(0, _), (1, _), (2, _), (3, _), (4, _), (9, _)] ⟨rfl, rfl, rfl, rfl, rfl, rfl, trivial⟩ ?_
    refine V_nil (.inl rfl) ?_
    refine E_then ?_
    refine J_seq ?_
    refine J_region ?_
    refine V_call (post := fun v D => ∃ b, v = .agg #[.map (some b)] ∧ D = [.m b [] 0]) (.n _) Tryd.call69 .nil (fun w1 hw1 => remember_spec w1) rfl trivial ?_
    rintro v D ⟨b, rfl, rfl⟩
    refine V_alloc (.n _) Tryd.zeroValue97 rfl rfl (fun _ => trivial) (fun b5 => ?_)   -- 4.1
    refine V_stN (us := [.map (some b)]) (.n _) Tryd.sizeOf97 rfl rfl rfl (by simp [Value.oneCell']) (by repeat (first | exact SetAt.z | apply SetAt.s)) rfl rfl ?_   -- 4.2
    refine V_sub [(0, _), (1, _), (2, _), (3, _), (4, _), (5, _), (9, _)] ⟨rfl, rfl, rfl, rfl, rfl, rfl, rfl, trivial⟩ ?_
    refine V_nil (.inl rfl) ?_
    refine E_then ?_
    refine J_seq ?_
    refine J_region ?_
    refine V_alloc (.n _) Tryd.zeroValue99 rfl rfl (fun _ => trivial) (fun b6 => ?_)   -- 5.0
    refine V_sub [(0, _), (1, _), (2, _), (3, _), (4, _), (5, _), (6, _), (9, _)] ⟨rfl, rfl, rfl, rfl, rfl, rfl, rfl, rfl, trivial⟩ ?_
    refine V_nil (.inl rfl) ?_
    refine E_then ?_
    refine J_seq ?_
    refine J_region ?_
    refine V_mkf (.n _) (.cons rfl (.cons rfl (.cons rfl (.cons rfl .nil)))) rfl ?_   -- 6.0
    refine V_stF (.n _) Tryd.sizeOf99 rfl rfl rfl (by repeat (first | exact SetAt.z | apply SetAt.s)) (by repeat (first | exact LSet.z | apply LSet.s)) ?_   -- 6.1
    refine V_sub [(0, _), (1, _), (2, _), (3, _), (4, _), (5, _), (6, _), (9, _)] ⟨rfl, rfl, rfl, rfl, rfl, rfl, rfl, rfl, trivial⟩ ?_
    refine V_nil (.inl rfl) ?_
    refine E_then ?_
    refine J_seq ?_
    refine J_region ?_
    refine V_ld (.n _) Tryd.isAgg99 rfl (by repeat (first | exact List.Mem.head _ | assumption | apply List.Mem.tail)) (by rfl) rfl ?_   -- 7.0
    refine V_callC (post := fun v G' => v = cV xs 0) (.n _) Tryd.call70 rfl (.cons rfl .nil) (fun w1 hw1 => by
      have h := countfrom_spec w A c xs hv hr b5 b4 b1 b6 b bT (posN xs - 1) 0 (by omega) _ [] 0 w1 ⟨(by repeat (first | exact List.Mem.head _ | assumption | apply List.Mem.tail)), (by repeat (first | exact List.Mem.head _ | assumption | apply List.Mem.tail)), (by repeat (first | exact List.Mem.head _ | assumption | apply List.Mem.tail)), (by repeat (first | exact List.Mem.head _ | assumption | apply List.Mem.tail)), (by repeat (first | exact List.Mem.head _ | assumption | apply List.Mem.tail))⟩ (Memo.nil _ _ _) (hw1.sel [2, 0, 1, 3, 4, 5] (by decide))
      exact h.mono fun e w2 ⟨es', clk', he, hm, hs⟩ => ⟨_, _, he, hs, rfl⟩) rfl ?_
    rintro v G' rfl
    refine V_asg (.n _) rfl rfl ?_   -- 7.2
    refine V_asg (.n _) rfl rfl ?_   -- 7.3
    refine V_sub [(0, _), (1, _), (2, _), (3, _), (4, _), (5, _), (6, _), (9, _)] ⟨rfl, rfl, rfl, rfl, rfl, rfl, rfl, rfl, trivial⟩ ?_
    refine V_nil (.inl rfl) ?_
    refine E_then ?_
    refine J_ret ?_
    -- return R0
    refine E_ret2 Tryd.results29 rfl rfl (fun w hw => ?_)
    exact ⟨rfl, hw.sub (fun x hx => by simp at hx) (by simp [keys])⟩

theorem RefCount_no (w : World) (A : Option Addr) (c : Nat) (xs : List (List UInt8)) (hl : xs.length ≤ 140737488351232) (hr : Rd w A (Ss xs)) (hv : validW xs = false) :
    Calls Tryd.prog 30 #[.slice A xs.length c] w fun e w' => e = .returned (.tuple #[.int .i64 0, .int .i64 2]) ∧ St w [] w' := by
  refine calls (args := [.slice A xs.length c]) Tryd.func30 rfl Tryd.ntmps30 (Nat.le_of_ble_eq_true rfl) (St.refl w) ?_
  refine J_seq ?_
  refine J_region ?_
  refine V_asg (.n _) rfl rfl ?_   -- 0.0
  refine V_asg (.n _) rfl rfl ?_   -- 0.1
  refine V_sub [(0, _), (2, _), (3, _)] ⟨rfl, rfl, rfl, trivial⟩ ?_
  refine V_nil (.inl rfl) ?_
  refine E_then ?_
  refine J_seq ?_
  refine J_seq ?_
  refine J_region ?_
  refine V_mov (.n _) rfl rfl ?_   -- 1.0
  refine V_call0 (.n _) Tryd.call63 (.cons rfl .nil) (fun w1 hw1 => Words_spec w1 A c xs hl (hr.keep hw1)) rfl trivial ?_   -- 1.1
  refine V_notB (.n _) rfl rfl ?_   -- 1.2
  refine V_sub [(0, _), (2, _), (3, _), (8, _)] ⟨rfl, rfl, rfl, rfl, trivial⟩ ?_
  refine V_nil (.inl rfl) ?_
  refine E_then ?_
  refine J_condB rfl (fun h1 => ?_) (fun h1 => ?_)   -- C0
  · skip
    refine J_seq ?_
    refine J_region ?_
    refine V_asg (.n _) rfl rfl ?_   -- 2.0
    refine V_asg (.n _) rfl rfl ?_   -- 2.1
    refine V_sub [(0, _), (2, _), (3, _), (8, _)] ⟨rfl, rfl, rfl, rfl, trivial⟩ ?_
    refine V_nil (.inl rfl) ?_
    refine E_then ?_
    refine J_ret ?_
    refine E_then_ret ?_
    -- return R0
    refine E_ret2 Tryd.results30 rfl rfl (fun w hw => ?_)
    exact ⟨rfl, hw⟩
  · simp [hv] at h1

theorem RefCount_yes (w : World) (A : Option Addr) (c : Nat) (xs : List (List UInt8)) (hl : xs.length ≤ 140737488351232) (hr : Rd w A (Ss xs)) (hv : validW xs = true) :
    Calls Tryd.prog 30 #[.slice A xs.length c] w fun e w' => e = .returned (.tuple #[.int .i64 ((counts xs).getD 0 0), .int .i64 0]) ∧ St w [] w' := by
  have hN0 := posN_pos xs
  refine calls (args := [.slice A xs.length c]) Tryd.func30 rfl Tryd.ntmps30 (Nat.le_of_ble_eq_true rfl) (St.refl w) ?_
  refine J_seq ?_
  refine J_region ?_
  refine V_asg (.n _) rfl rfl ?_   -- 0.0
  refine V_asg (.n _) rfl rfl ?_   -- 0.1
  refine V_sub [(0, _), (2, _), (3, _)] ⟨rfl, rfl, rfl, trivial⟩ ?_
  refine V_nil (.inl rfl) ?_
  refine E_then ?_
  refine J_seq ?_
  refine J_seq ?_
  refine J_region ?_
  refine V_mov (.n _) rfl rfl ?_   -- 1.0
  refine V_call0 (.n _) Tryd.call63 (.cons rfl .nil) (fun w1 hw1 => Words_spec w1 A c xs hl (hr.keep hw1)) rfl trivial ?_   -- 1.1
  refine V_notB (.n _) rfl rfl ?_   -- 1.2
  refine V_sub [(0, _), (2, _), (3, _), (8, _)] ⟨rfl, rfl, rfl, rfl, trivial⟩ ?_
  refine V_nil (.inl rfl) ?_
  refine E_then ?_
  refine J_condB rfl (fun h1 => ?_) (fun h1 => ?_)   -- C0
  · simp [hv] at h1
  · skip
    refine J_skip ?_
    refine E_then ?_
    refine J_seq ?_
    refine J_region ?_
    refine V_mov (.n _) rfl rfl ?_   -- 3.0
    refine V_call (post := fun v D => ∃ b b2, v = .tuple #[.slice (some ⟨b, 0, none⟩) (posN xs) (posN xs), .slice (some ⟨b2, 0, none⟩) (posN xs) (posN xs)] ∧ D = [.c b2 3 (I (counts xs)), .c b 3 (I (tableOf xs))]) (.n _) Tryd.call64 (.cons rfl .nil) (fun w1 hw1 => reftable_spec w1 A c xs hv (hr.keep hw1)) rfl trivial ?_
    rintro v D ⟨bT, bC, rfl, rfl⟩
    refine V_mov (.n _) rfl rfl ?_   -- 3.2
    refine V_ext (.n _) rfl rfl rfl ?_   -- 3.3
    refine V_ext (.n _) rfl rfl rfl ?_   -- 3.4
    refine V_asg (.n _) rfl rfl ?_   -- 3.5
    refine V_asg (.n _) rfl rfl ?_   -- 3.6
    refine V_sub [(0, _), (2, _), (3, _), (5, _), (8, _)] ⟨rfl, rfl, rfl, rfl, rfl, trivial⟩ ?_
    refine V_nil (.inl rfl) ?_
    refine E_then ?_
    refine J_seq ?_
    refine J_region ?_
    refine V_mov (.n _) rfl rfl ?_   -- 4.0
    refine V_ix (.n _) Tryd.underlying34 Tryd.sizeOf3 rfl rfl (by omega) (by omega) rfl ?_   -- 4.1
    refine V_ld (.n _) Tryd.isAgg3 rfl (by repeat (first | exact List.Mem.head _ | assumption | apply List.Mem.tail)) (I_getN (xs := counts xs) (i := 0) (by rw [counts, cnt_length]; omega)) rfl ?_   -- 4.2
    refine V_asg (.n _) rfl rfl ?_   -- 4.3
    refine V_asg (.n _) rfl rfl ?_   -- 4.4
    refine V_sub [(0, _), (2, _), (3, _), (5, _), (8, _)] ⟨rfl, rfl, rfl, rfl, rfl, trivial⟩ ?_
    refine V_nil (.inl rfl) ?_
    refine E_then ?_
    refine J_ret ?_
    -- return R0
    refine E_ret2 Tryd.results30 rfl rfl (fun w hw => ?_)
    exact ⟨rfl, hw.sublist (by simp)⟩

theorem RefShortest_no (w : World) (A : Option Addr) (c : Nat) (xs : List (List UInt8)) (hl : xs.length ≤ 140737488351232) (hr : Rd w A (Ss xs)) (hv : validW xs = false) :
    Calls Tryd.prog 28 #[.slice A xs.length c] w fun e w' => e = .returned (.tuple #[.string ⟨#[]⟩, .int .i64 2]) ∧ St w [] w' := by
  refine calls (args := [.slice A xs.length c]) Tryd.func28 rfl Tryd.ntmps28 (Nat.le_of_ble_eq_true rfl) (St.refl w) ?_
  refine J_seq ?_
  refine J_region ?_
  refine V_asg (.n _) rfl rfl ?_   -- 0.0
  refine V_asg (.n _) rfl rfl ?_   -- 0.1
  refine V_sub [(0, _), (2, _), (3, _)] ⟨rfl, rfl, rfl, trivial⟩ ?_
  refine V_nil (.inl rfl) ?_
  refine E_then ?_
  refine J_seq ?_
  refine J_seq ?_
  refine J_region ?_
  refine V_mov (.n _) rfl rfl ?_   -- 1.0
  refine V_call0 (.n _) Tryd.call63 (.cons rfl .nil) (fun w1 hw1 => Words_spec w1 A c xs hl (hr.keep hw1)) rfl trivial ?_   -- 1.1
  refine V_notB (.n _) rfl rfl ?_   -- 1.2
  refine V_sub [(0, _), (2, _), (3, _), (13, _)] ⟨rfl, rfl, rfl, rfl, trivial⟩ ?_
  refine V_nil (.inl rfl) ?_
  refine E_then ?_
  refine J_condB rfl (fun h1 => ?_) (fun h1 => ?_)   -- C0
  · skip
    refine J_seq ?_
    refine J_region ?_
    refine V_asg (.n _) rfl rfl ?_   -- 2.0
    refine V_asg (.n _) rfl rfl ?_   -- 2.1
    refine V_sub [(0, _), (2, _), (3, _), (13, _)] ⟨rfl, rfl, rfl, rfl, trivial⟩ ?_
    refine V_nil (.inl rfl) ?_
    refine E_then ?_
    refine J_ret ?_
    refine E_then_ret ?_
    -- return R0
    refine E_ret2 Tryd.results28 rfl rfl (fun w hw => ?_)
    exact ⟨rfl, hw⟩
  · simp [hv] at h1

theorem RefShortest_yes (w : World) (A : Option Addr) (c : Nat) (xs : List (List UInt8)) (hl : xs.length ≤ 140737488351232) (hr : Rd w A (Ss xs)) (hv : validW xs = true) :
    Calls Tryd.prog 28 #[.slice A xs.length c] w fun e w' => e = .returned (.tuple #[.string ⟨(shortS xs).toArray⟩, .int .i64 0]) ∧ St w [] w' := by
  obtain ⟨hv1, hv2, hv3⟩ := validW_len hv
  have hN := posN_le hv
  have hN0 := posN_pos xs
  have hlen : (tableOf xs).length = posN xs := tabD_length _ _
  refine calls (args := [.slice A xs.length c]) Tryd.func28 rfl Tryd.ntmps28 (Nat.le_of_ble_eq_true rfl) (St.refl w) ?_
  refine J_seq ?_
  refine J_region ?_
  refine V_asg (.n _) rfl rfl ?_   -- 0.0
  refine V_asg (.n _) rfl rfl ?_   -- 0.1
  refine V_sub [(0, _), (2, _), (3, _)] ⟨rfl, rfl, rfl, trivial⟩ ?_
  refine V_nil (.inl rfl) ?_
  refine E_then ?_
  refine J_seq ?_
  refine J_seq ?_
  refine J_region ?_
  refine V_mov (.n _) rfl rfl ?_   -- 1.0
  refine V_call0 (.n _) Tryd.call63 (.cons rfl .nil) (fun w1 hw1 => Words_spec w1 A c xs hl (hr.keep hw1)) rfl trivial ?_   -- 1.1
  refine V_notB (.n _) rfl rfl ?_   -- 1.2
  refine V_sub [(0, _), (2, _), (3, _), (13, _)] ⟨rfl, rfl, rfl, rfl, trivial⟩ ?_
  refine V_nil (.inl rfl) ?_
  refine E_then ?_
  refine J_condB rfl (fun h1 => ?_) (fun h1 => ?_)   -- C0
  · simp [hv] at h1
  · skip
    refine J_skip ?_
    refine E_then ?_
    refine J_seq ?_
    refine J_region ?_
    refine V_mov (.n _) rfl rfl ?_   -- 3.0
    refine V_call (post := fun v D => ∃ b b2, v = .tuple #[.slice (some ⟨b, 0, none⟩) (posN xs) (posN xs), .slice (some ⟨b2, 0, none⟩) (posN xs) (posN xs)] ∧ D = [.c b2 3 (I (counts xs)), .c b 3 (I (tableOf xs))]) (.n _) Tryd.call64 (.cons rfl .nil) (fun w1 hw1 => reftable_spec w1 A c xs hv (hr.keep hw1)) rfl trivial ?_
    rintro v D ⟨bT, bC, rfl, rfl⟩
    refine V_mov (.n _) rfl rfl ?_   -- 3.2
    refine V_ext (.n _) rfl rfl rfl ?_   -- 3.3
    refine V_ext (.n _) rfl rfl rfl ?_   -- 3.4
    refine V_asg (.n _) rfl rfl ?_   -- 3.5
    refine V_asg (.n _) rfl rfl ?_   -- 3.6
    refine V_sub [(0, _), (2, _), (3, _), (4, _), (13, _)] ⟨rfl, rfl, rfl, rfl, rfl, trivial⟩ ?_
    refine V_nil (.inl rfl) ?_
    refine E_then ?_
    refine J_seq ?_
    refine J_region ?_
    refine V_asg (.n _) rfl rfl ?_   -- 4.0
    refine V_sub [(0, _), (2, _), (3, _), (4, _), (6, _), (13, _)] ⟨rfl, rfl, rfl, rfl, rfl, rfl, trivial⟩ ?_
    refine V_nil (.inl rfl) ?_
    refine E_then ?_
    refine J_seq ?_
    refine J_seq ?_
    refine J_region ?_
    refine V_asg (.n _) rfl rfl ?_   -- 5.0
    refine V_sub [(0, _), (2, _), (3, _), (4, _), (6, _), (7, _), (13, _)] ⟨rfl, rfl, rfl, rfl, rfl, rfl, rfl, trivial⟩ ?_
    refine V_nil (.inl rfl) ?_
    refine E_then ?_
    refine J_block ?_
    -- loop L0
    refine J_loop (X := Nat × List UInt8) (fun x => [(0, (.slice A xs.length c)), (2, (.string ⟨#[]⟩)), (3, (.int .i64 (0))), (4, (.slice (some ⟨bT, 0, none⟩) (posN xs) (posN xs))), (6, .string ⟨x.2.toArray⟩), (7, .int .i64 (x.1 : Nat))]) (fun x => [.c bC 3 (I (counts xs)), .c bT 3 (I (tableOf xs))]) (fun x => x.1 < posN xs ∧ x.2.length ≤ x.1 ∧ ∃ f, posN xs ≤ f + x.1 ∧ x.2 ++ path xs f x.1 = shortS xs) (fun x => posN xs - x.1) (0, []) (by refine ⟨?_, ?_, ?_, ?_, ?_, ?_, trivial⟩ <;> first | rfl | exact int_eq (by omega)) (fun w h => h) ?_ ?_
    · exact ⟨hN0, Nat.le_refl _, posN xs, by omega, rfl⟩
    · rintro ⟨p, acc⟩ ⟨hp, ha, f, hf, hpath⟩
      dsimp only at hp ha hf hpath ⊢
      refine J_seq ?_
      refine J_seq ?_
      refine J_region ?_
      refine V_mov (.n _) rfl rfl ?_   -- 6.0
      refine V_mov (.n _) rfl rfl ?_   -- 6.1
      refine V_ix (.n _) Tryd.underlying34 Tryd.sizeOf3 rfl rfl (by omega) (by omega) rfl ?_   -- 6.2
      refine V_ld (.n _) Tryd.isAgg3 rfl (by repeat (first | exact List.Mem.head _ | assumption | apply List.Mem.tail)) (I_getN (xs := tableOf xs) (i := p) (by omega)) rfl ?_   -- 6.3
      refine V_gtr (.n _) rfl rfl rfl ?_   -- 6.4
      refine V_sub [(0, _), (2, _), (3, _), (4, _), (6, _), (7, _), (23, _)] ⟨rfl, rfl, rfl, rfl, rfl, rfl, rfl, trivial⟩ ?_
      refine V_nil (.inl rfl) ?_
      refine E_then ?_
      refine J_cond rfl (fun h2 => ?_) (fun h2 => ?_)   -- C1
      · have hp1 := pos_lt hp h2
        refine J_skip ?_
        refine E_then ?_
        refine J_block ?_
        refine J_seq ?_
        refine J_region ?_
        refine V_mov (.n _) rfl rfl ?_   -- 7.0
        refine V_sub [(0, _), (2, _), (3, _), (4, _), (6, _), (7, _), (23, _), (24, _)] ⟨rfl, rfl, rfl, rfl, rfl, rfl, rfl, rfl, trivial⟩ ?_
        refine V_nil (.inl rfl) ?_
        refine E_then ?_
        refine J_block ?_
        -- loop L1
        refine J_loop (X := Nat) (fun j => [(0, (.slice A xs.length c)), (2, (.string ⟨#[]⟩)), (3, (.int .i64 (0))), (4, (.slice (some ⟨bT, 0, none⟩) (posN xs) (posN xs))), (6, .string ⟨acc.toArray⟩), (7, .int .i64 (p : Nat)), (24, .int .i64 (j : Nat))]) (fun j => [.c bC 3 (I (counts xs)), .c bT 3 (I (tableOf xs))]) (fun j => j ≤ 8 ∧ ∀ i, i < j → goes xs p (letters.getD i 0) = false) (fun j => 8 - j) (0) (by refine ⟨?_, ?_, ?_, ?_, ?_, ?_, ?_, trivial⟩ <;> first | rfl | exact int_eq (by omega)) (fun w h => h) ?_ ?_
        · exact ⟨by omega, fun i hi => by omega⟩
        · rintro j ⟨hj, hj2⟩
          refine J_seq ?_
          refine J_region ?_
          refine V_lss (.n _) rfl rfl rfl ?_   -- 8.0
          refine V_sub [(0, _), (2, _), (3, _), (4, _), (6, _), (7, _), (24, _), (25, _)] ⟨rfl, rfl, rfl, rfl, rfl, rfl, rfl, rfl, trivial⟩ ?_
          refine V_nil (.inl rfl) ?_
          refine E_then ?_
          refine J_seq ?_
          refine J_cond rfl (fun h3 => ?_) (fun h3 => ?_)   -- C2
          · skip
            refine J_skip ?_
            refine E_then ?_
            refine J_seq ?_
            refine J_block ?_
            refine J_seq ?_
            refine J_region ?_
            refine V_mov (.n _) rfl rfl ?_   -- 9.0
            refine V_asg (.n _) rfl rfl ?_   -- 9.1
            refine V_sub [(0, _), (2, _), (3, _), (4, _), (6, _), (7, _), (8, _), (24, _), (25, _)] ⟨rfl, rfl, rfl, rfl, rfl, rfl, rfl, rfl, rfl, trivial⟩ ?_
            refine V_nil (.inl rfl) ?_
            refine E_then ?_
            refine J_seq ?_
            refine J_region ?_
            refine V_mov (.n _) rfl rfl ?_   -- 10.0
            refine V_mov (.n _) rfl rfl ?_   -- 10.1
            refine V_mov (.n _) rfl rfl ?_   -- 10.2
            refine V_sidx (p := letters) (.n _) Tryd.underlying9 rfl rfl (by omega) (by show ((j : Nat) : Int) < 8; omega) rfl ?_   -- 10.3
            rw [show letters.getD ((j : Nat) : Int).toNat 0 = letters.getD j 0 by simp]
            refine V_call0 (.n _) Tryd.call67 (.cons rfl (.cons rfl (.cons rfl .nil))) (fun w1 hw1 => moved_spec w1 A c xs p (letters.getD j 0) hv (by omega) (hr.keep hw1)) rfl trivial ?_   -- 10.4
            have hal := adv_lt hp (letters.getD j 0)
            have hcut := cut1 (show j < 8 by omega)
            have hb1 := tab_bd xs (p + adv (letters.getD j 0) xs p 1)
            have hb2 := tab_bd xs p
            have hfar : far = 1099511627776 := rfl
            generalize hcc : letters.getD j 0 = cc at *
            refine V_mov (.n _) rfl rfl ?_   -- 10.5
            refine V_ext (.n _) rfl rfl rfl ?_   -- 10.6
            refine V_ext (.n _) rfl rfl rfl ?_   -- 10.7
            refine V_asg (.n _) rfl rfl ?_   -- 10.8
            refine V_asg (.n _) rfl rfl ?_   -- 10.9
            refine V_sub [(0, _), (2, _), (3, _), (4, _), (6, _), (7, _), (8, _), (9, _), (10, _), (24, _), (25, _)] ⟨rfl, rfl, rfl, rfl, rfl, rfl, rfl, rfl, rfl, rfl, rfl, trivial⟩ ?_
            refine V_nil (.inl rfl) ?_
            refine E_then ?_
            refine J_seq ?_
            refine J_draw (Gs := _) (cl := [.p, .p, .p, .p, .p, .r, .p, .p, .p, .p, .r, .p, .p]) (by kernel_rfl) (fun _ _ h => h) ?_
            refine V_mov (.s _ _ _) rfl rfl ?_   -- 11.0
            refine V_mov (.s _ _ _) rfl rfl ?_   -- 11.1
            refine V_split 36 rfl (fun h4 => ?_) (fun h4 => ?_)   -- guard 11.1
            · skip
              refine V_go (1, true) rfl ?_
              refine V_mov (.s _ _ _) rfl rfl ?_   -- 11.2
              refine V_go (1, true) rfl ?_
              refine V_mov (.s _ _ _) rfl rfl ?_   -- 11.3
              refine V_go (1, true) rfl ?_
              refine V_ix (.s _ _ _) Tryd.underlying34 Tryd.sizeOf3 rfl rfl (by omega) (by omega) rfl ?_   -- 11.4
              refine V_go (1, true) rfl ?_
              refine V_ld (.s _ _ _) Tryd.isAgg3 rfl (by repeat (first | exact List.Mem.head _ | assumption | apply List.Mem.tail)) (I_getN (xs := tableOf xs) (i := p + adv cc xs p 1) (by omega)) rfl ?_   -- 11.5
              refine V_go (1, true) rfl ?_
              refine V_add (.s _ _ _) rfl rfl (wrap_ok (by omega)) rfl ?_   -- 11.6
              refine V_go (1, true) rfl ?_
              refine V_mov (.s _ _ _) rfl rfl ?_   -- 11.7
              refine V_go (1, true) rfl ?_
              refine V_mov (.s _ _ _) rfl rfl ?_   -- 11.8
              refine V_go (1, true) rfl ?_
              refine V_ix (.s _ _ _) Tryd.underlying34 Tryd.sizeOf3 rfl rfl (by omega) (by omega) rfl ?_   -- 11.9
              refine V_go (1, true) rfl ?_
              refine V_ld (.s _ _ _) Tryd.isAgg3 rfl (by repeat (first | exact List.Mem.head _ | assumption | apply List.Mem.tail)) (I_getN (xs := tableOf xs) (i := p) (by omega)) rfl ?_   -- 11.10
              refine V_go (1, true) rfl ?_
              refine V_eql (.s _ _ _) rfl rfl rfl ?_   -- 11.11
              refine V_pickT (.s _ _ _) rfl rfl rfl ?_   -- 11.12
              refine V_sub [(0, _), (2, _), (3, _), (4, _), (6, _), (7, _), (8, _), (9, _), (10, _), (24, _), (25, _), (47, _)] ⟨rfl, rfl, rfl, rfl, rfl, rfl, rfl, rfl, rfl, rfl, rfl, rfl, trivial⟩ ?_
              refine V_nil (.inr ⟨_, rfl⟩) ?_
              refine E_then ?_
              refine J_cond rfl (fun h5 => ?_) (fun h5 => ?_)   -- C3
              · skip
                refine J_seq ?_
                refine J_region ?_
                refine V_mov (.n _) rfl rfl ?_   -- 12.0
                refine V_mov (.n _) rfl rfl ?_   -- 12.1
                refine V_mov (.n _) rfl rfl ?_   -- 12.2
                refine V_add (.n _) rfl rfl (wrap_ok (by omega)) rfl ?_   -- 12.3
                refine V_sslc (p := letters) (.n _) Tryd.underlying9 rfl rfl rfl (by omega) (by omega) (by show ((j : Nat) : Int) + 1 ≤ 8; omega) rfl ?_   -- 12.4
                rw [hcut]
                refine V_cat (.n _) rfl rfl (by simp; omega) rfl ?_   -- 12.5
                refine V_asg (.n _) rfl rfl ?_   -- 12.6
                refine V_sub [(0, _), (2, _), (3, _), (4, _), (6, _), (7, _), (8, _), (9, _), (10, _), (24, _), (25, _), (47, _)] ⟨rfl, rfl, rfl, rfl, rfl, rfl, rfl, rfl, rfl, rfl, rfl, rfl, trivial⟩ ?_
                refine V_nil (.inl rfl) ?_
                refine E_then ?_
                refine J_seq ?_
                refine J_region ?_
                refine V_mov (.n _) rfl rfl ?_   -- 13.0
                refine V_asg (.n _) rfl rfl ?_   -- 13.1
                refine V_sub [(0, _), (2, _), (3, _), (4, _), (6, _), (7, _), (8, _), (9, _), (10, _), (24, _), (25, _), (47, _)] ⟨rfl, rfl, rfl, rfl, rfl, rfl, rfl, rfl, rfl, rfl, rfl, rfl, trivial⟩ ?_
                refine V_nil (.inl rfl) ?_
                refine E_then ?_
                refine J_exit ?_
                refine E_blk_exit rfl ?_
                refine E_then_exit ?_
                refine E_lp_exit ?_
                refine E_blk_hit ?_
                refine E_blk ?_
                -- again L0 0
                subst hcc
                refine E_again (X := Nat × List UInt8) (KI := fun x => [(0, (.slice A xs.length c)), (2, (.string ⟨#[]⟩)), (3, (.int .i64 (0))), (4, (.slice (some ⟨bT, 0, none⟩) (posN xs) (posN xs))), (6, .string ⟨x.2.toArray⟩), (7, .int .i64 (x.1 : Nat))]) (GI := fun x => [.c bC 3 (I (counts xs)), .c bT 3 (I (tableOf xs))]) (I := fun x => x.1 < posN xs ∧ x.2.length ≤ x.1 ∧ ∃ f, posN xs ≤ f + x.1 ∧ x.2 ++ path xs f x.1 = shortS xs) (μ := fun x => posN xs - x.1) (x := (p, acc)) ((p + adv (letters.getD j 0) xs p 1, acc ++ [letters.getD j 0])) ?_ ?_ ?_ (fun w h => h)
                · show posN xs - (p + adv (letters.getD j 0) xs p 1) < posN xs - p; omega
                · dsimp only
                  obtain ⟨f', hf', he⟩ := path_step hf (by omega) (by omega) hj2 (by assumption) (by omega)
                  exact ⟨hal, by rw [List.length_append, List.length_singleton]; omega, f', hf', by rw [List.append_assoc, List.singleton_append, ← he]; exact hpath⟩
                · refine ⟨?_, ?_, ?_, ?_, ?_, ?_, trivial⟩ <;> first | rfl | exact int_eq (by omega) | exact int_eq (by dsimp only; omega)
              · skip
                refine J_skip ?_
                refine E_blk ?_
                refine E_then ?_
                refine J_region ?_
                refine V_add (.n _) rfl rfl (wrap_ok (by omega)) rfl ?_   -- 14.0
                refine V_mov (.n _) rfl rfl ?_   -- 14.1
                refine V_sub [(0, _), (2, _), (3, _), (4, _), (6, _), (7, _), (8, _), (9, _), (10, _), (24, _), (25, _), (47, _)] ⟨rfl, rfl, rfl, rfl, rfl, rfl, rfl, rfl, rfl, rfl, rfl, rfl, trivial⟩ ?_
                refine V_nil (.inl rfl) ?_
                -- again L1 0
                subst hcc
                refine E_again (j + 1) ?_ ?_ ?_ (fun w h => h)
                · omega
                · exact ⟨by omega, goes_step hj2 (fun hh => by first | exact absurd hh.1 (by assumption) | omega)⟩
                · refine ⟨?_, ?_, ?_, ?_, ?_, ?_, ?_, trivial⟩ <;> first | rfl | exact int_eq (by omega) | exact int_eq (by dsimp only; omega)
            · skip
              refine V_pass (.s _ _ _) (1, true) rfl rfl ?_   -- 11.2
              refine V_pass (.s _ _ _) (1, true) rfl rfl ?_   -- 11.3
              refine V_pass (.s _ _ _) (1, true) rfl rfl ?_   -- 11.4
              refine V_pass (.s _ _ _) (1, true) rfl rfl ?_   -- 11.5
              refine V_pass (.s _ _ _) (1, true) rfl rfl ?_   -- 11.6
              refine V_pass (.s _ _ _) (1, true) rfl rfl ?_   -- 11.7
              refine V_pass (.s _ _ _) (1, true) rfl rfl ?_   -- 11.8
              refine V_pass (.s _ _ _) (1, true) rfl rfl ?_   -- 11.9
              refine V_pass (.s _ _ _) (1, true) rfl rfl ?_   -- 11.10
              refine V_pass (.s _ _ _) (1, true) rfl rfl ?_   -- 11.11
              refine V_pickF (.s _ _ _) rfl rfl rfl ?_   -- 11.12
              refine V_sub [(0, _), (2, _), (3, _), (4, _), (6, _), (7, _), (8, _), (9, _), (10, _), (24, _), (25, _), (47, _)] ⟨rfl, rfl, rfl, rfl, rfl, rfl, rfl, rfl, rfl, rfl, rfl, rfl, trivial⟩ ?_
              refine V_nil (.inr ⟨_, rfl⟩) ?_
              refine E_then ?_
              refine J_condF rfl ?_
              refine J_skip ?_
              refine E_blk ?_
              refine E_then ?_
              refine J_region ?_
              refine V_add (.n _) rfl rfl (wrap_ok (by omega)) rfl ?_   -- 14.0
              refine V_mov (.n _) rfl rfl ?_   -- 14.1
              refine V_sub [(0, _), (2, _), (3, _), (4, _), (6, _), (7, _), (8, _), (9, _), (10, _), (24, _), (25, _), (47, _)] ⟨rfl, rfl, rfl, rfl, rfl, rfl, rfl, rfl, rfl, rfl, rfl, rfl, trivial⟩ ?_
              refine V_nil (.inl rfl) ?_
              -- again L1 1
              subst hcc
              refine E_again (j + 1) ?_ ?_ ?_ (fun w h => h)
              · omega
              · exact ⟨by omega, goes_step hj2 (fun hh => by first | exact absurd hh.1 (by assumption) | omega)⟩
              · refine ⟨?_, ?_, ?_, ?_, ?_, ?_, ?_, trivial⟩ <;> first | rfl | exact int_eq (by omega) | exact int_eq (by dsimp only; omega)
          · exact absurd (goes_ex hv hp1) (goes_all (fun i hi => hj2 i (by omega)))
      · skip
        refine J_exit ?_
        refine E_then_exit ?_
        refine E_lp_exit ?_
        refine E_blk_hit ?_
        refine E_then ?_
        refine J_seq ?_
        refine J_region ?_
        refine V_mov (.n _) rfl rfl ?_   -- 15.0
        refine V_asg (.n _) rfl rfl ?_   -- 15.1
        refine V_asg (.n _) rfl rfl ?_   -- 15.2
        refine V_sub [(0, _), (2, _), (3, _), (4, _), (6, _), (7, _), (23, _)] ⟨rfl, rfl, rfl, rfl, rfl, rfl, rfl, trivial⟩ ?_
        refine V_nil (.inl rfl) ?_
        refine E_then ?_
        refine J_ret ?_
        -- return R0
        refine E_ret2 Tryd.results28 rfl rfl (fun w hw => ?_)
        obtain rfl : acc = shortS xs := by
          rw [← hpath, path_end (fun h => by have := tab_pos hv h; omega), List.append_nil]
        exact ⟨rfl, hw.sublist (by simp)⟩


theorem hd_iff {r s : List UInt8} {i : Nat} (hr : r ≠ []) : r.head? = some (s.getD i 0) ↔ ((s.getD ((i : Nat) : Int).toNat 0).toNat : Int) = ((r.getD (0 : Int).toNat 0).toNat : Int) := by
  cases r with
  | nil => exact (hr rfl).elim
  | cons a r =>
    rw [Int.toNat_natCast]
    simp only [List.head?_cons, Option.some.injEq, Int.toNat_zero, List.getD_cons_zero]
    constructor
    · intro h; rw [h]
    · intro h; exact UInt8.toNat_inj.1 (by omega)

theorem cover1_spec (w : World) (s r0 : List UInt8) (hs : s.length ≤ 140737488351232) :
    Calls Tryd.prog 68 #[.string ⟨s.toArray⟩, .string ⟨r0.toArray⟩] w fun e w' => e = .returned (.bool (decide (restW s r0 = []))) ∧ St w [] w' := by
  refine calls (args := [.string ⟨s.toArray⟩, .string ⟨r0.toArray⟩]) Tryd.func68 rfl Tryd.ntmps68 (Nat.le_of_ble_eq_true rfl) (St.refl w) ?_
  refine J_seq ?_
  refine J_region ?_
  refine V_asg (.n _) rfl rfl ?_   -- 0.0
  refine V_sub [(0, _), (1, _), (4, _)] ⟨rfl, rfl, rfl, trivial⟩ ?_
  refine V_nil (.inl rfl) ?_
  refine E_then ?_
  refine J_seq ?_
  refine J_seq ?_
  refine J_region ?_
  refine V_asg (.n _) rfl rfl ?_   -- 1.0
  refine V_sub [(0, _), (1, _), (4, _), (5, _)] ⟨rfl, rfl, rfl, rfl, trivial⟩ ?_
  refine V_nil (.inl rfl) ?_
  refine E_then ?_
  refine J_block ?_
  -- loop L0
  refine J_loop (X := Nat × List UInt8) (fun x => [(0, (.string ⟨s.toArray⟩)), (1, .string ⟨x.2.toArray⟩), (4, (.bool false)), (5, .int .i64 (x.1 : Nat))]) (fun x => []) (fun x => x.1 ≤ s.length ∧ restW (s.drop x.1) x.2 = restW s r0) (fun x => s.length - x.1) (0, r0) (by refine ⟨?_, ?_, ?_, ?_, trivial⟩ <;> first | rfl | exact int_eq (by omega)) (fun w h => h) ?_ ?_
  · exact ⟨Nat.zero_le _, by rw [List.drop_zero]⟩
  · rintro ⟨i, r⟩ ⟨hi, hre⟩
    dsimp only at hi hre ⊢
    refine J_seq ?_
    refine J_seq ?_
    refine J_region ?_
    refine V_mov (.n _) rfl rfl ?_   -- 2.0
    refine V_mov (.n _) rfl rfl ?_   -- 2.1
    refine V_slen (.n _) Tryd.underlying9 rfl rfl ?_   -- 2.2
    refine V_lss (.n _) rfl rfl rfl ?_   -- 2.3
    refine V_mov (.n _) rfl rfl ?_   -- 2.4
    refine V_split 10 rfl (fun h1 => ?_) (fun h1 => ?_)   -- guard 2.4
    · skip
      refine V_go (4, true) rfl ?_
      refine V_mov (.n _) rfl rfl ?_   -- 2.5
      refine V_go (4, true) rfl ?_
      refine V_sneq (.n _) rfl rfl rfl ?_   -- 2.6
      refine V_pickT (.n _) rfl rfl rfl ?_   -- 2.7
      refine V_sub [(0, _), (1, _), (4, _), (5, _), (13, _)] ⟨rfl, rfl, rfl, rfl, rfl, trivial⟩ ?_
      refine V_nil (.inl rfl) ?_
      refine E_then ?_
      refine J_cond rfl (fun h2 => ?_) (fun h2 => ?_)   -- C0
      · skip
        refine J_skip ?_
        refine E_then ?_
        refine J_seq ?_
        refine J_block ?_
        refine J_seq ?_
        refine J_draw (Gs := _) (cl := [.p, .p, .p, .p, .p, .p]) (by kernel_rfl) (fun _ _ h => h) ?_
        refine V_mov (.s _ _ _) rfl rfl ?_   -- 4.0
        refine V_mov (.s _ _ _) rfl rfl ?_   -- 4.1
        refine V_sidx (p := s) (.s _ _ _) Tryd.underlying9 rfl rfl (by omega) (by omega) rfl ?_   -- 4.2
        refine V_mov (.s _ _ _) rfl rfl ?_   -- 4.3
        refine V_sidx (p := r) (.s _ _ _) Tryd.underlying9 rfl rfl (by omega) (by have := List.length_pos_iff.2 (show r ≠ [] by assumption); omega) rfl ?_   -- 4.4
        refine V_eql (.s _ _ _) rfl rfl rfl ?_   -- 4.5
        refine V_sub [(0, _), (1, _), (4, _), (5, _), (13, _), (21, _)] ⟨rfl, rfl, rfl, rfl, rfl, rfl, trivial⟩ ?_
        refine V_nil (.inr ⟨_, rfl⟩) ?_
        refine E_then ?_
        refine J_cond rfl (fun h3 => ?_) (fun h3 => ?_)   -- C1
        · skip
          refine J_region ?_
          refine V_mov (.n _) rfl rfl ?_   -- 5.0
          refine V_sslcL (.n _) Tryd.underlying9 rfl rfl (by omega) (by have := List.length_pos_iff.2 (show r ≠ [] by assumption); omega) rfl ?_   -- 5.1
          refine V_asg (.n _) rfl rfl ?_   -- 5.2
          refine V_sub [(0, _), (1, _), (4, _), (5, _), (13, _), (21, _)] ⟨rfl, rfl, rfl, rfl, rfl, rfl, trivial⟩ ?_
          refine V_nil (.inl rfl) ?_
          refine E_blk ?_
          refine E_then ?_
          refine J_region ?_
          refine V_mov (.n _) rfl rfl ?_   -- 3.0
          refine V_add (.n _) rfl rfl (wrap_ok (by omega)) rfl ?_   -- 3.1
          refine V_asg (.n _) rfl rfl ?_   -- 3.2
          refine V_sub [(0, _), (1, _), (4, _), (5, _), (13, _), (21, _)] ⟨rfl, rfl, rfl, rfl, rfl, rfl, trivial⟩ ?_
          refine V_nil (.inl rfl) ?_
          -- again L0 0
          refine E_again (X := Nat × List UInt8) (KI := fun x => [(0, (.string ⟨s.toArray⟩)), (1, .string ⟨x.2.toArray⟩), (4, (.bool false)), (5, .int .i64 (x.1 : Nat))]) (GI := fun x => []) (I := fun x => x.1 ≤ s.length ∧ restW (s.drop x.1) x.2 = restW s r0) (μ := fun x => s.length - x.1) (x := (i, r)) ((i + 1, r.drop 1)) ?_ ?_ ?_ (fun w h => h)
          · show s.length - (i + 1) < s.length - i; omega
          · dsimp only
            refine ⟨by omega, ?_⟩
            rw [← hre, restW_step (show i < s.length by omega), if_pos ((hd_iff (by assumption)).2 (by assumption)), List.drop_one]
          · refine ⟨?_, ?_, ?_, ?_, trivial⟩ <;> first | rfl | exact int_eq (by omega) | exact int_eq (by dsimp only; omega)
        · skip
          refine J_skip ?_
          refine E_blk ?_
          refine E_then ?_
          refine J_region ?_
          refine V_mov (.n _) rfl rfl ?_   -- 3.0
          refine V_add (.n _) rfl rfl (wrap_ok (by omega)) rfl ?_   -- 3.1
          refine V_asg (.n _) rfl rfl ?_   -- 3.2
          refine V_sub [(0, _), (1, _), (4, _), (5, _), (13, _), (21, _)] ⟨rfl, rfl, rfl, rfl, rfl, rfl, trivial⟩ ?_
          refine V_nil (.inl rfl) ?_
          -- again L0 1
          refine E_again (X := Nat × List UInt8) (KI := fun x => [(0, (.string ⟨s.toArray⟩)), (1, .string ⟨x.2.toArray⟩), (4, (.bool false)), (5, .int .i64 (x.1 : Nat))]) (GI := fun x => []) (I := fun x => x.1 ≤ s.length ∧ restW (s.drop x.1) x.2 = restW s r0) (μ := fun x => s.length - x.1) (x := (i, r)) ((i + 1, r)) ?_ ?_ ?_ (fun w h => h)
          · show s.length - (i + 1) < s.length - i; omega
          · dsimp only
            refine ⟨by omega, ?_⟩
            rw [← hre, restW_step (show i < s.length by omega), if_neg (fun hh => (show ¬ _ by assumption) ((hd_iff (by assumption)).1 hh))]
          · refine ⟨?_, ?_, ?_, ?_, trivial⟩ <;> first | rfl | exact int_eq (by omega) | exact int_eq (by dsimp only; omega)
      · skip
        refine J_exit ?_
        refine E_then_exit ?_
        refine E_lp_exit ?_
        refine E_blk_hit ?_
        refine E_then ?_
        refine J_seq ?_
        refine J_region ?_
        refine V_mov (.n _) rfl rfl ?_   -- 6.0
        refine V_seql (.n _) rfl rfl rfl ?_   -- 6.1
        refine V_asg (.n _) rfl rfl ?_   -- 6.2
        refine V_sub [(0, _), (1, _), (4, _), (5, _), (13, _)] ⟨rfl, rfl, rfl, rfl, rfl, trivial⟩ ?_
        refine V_nil (.inl rfl) ?_
        refine E_then ?_
        refine J_ret ?_
        -- return R0
        refine E_ret1 Tryd.results68 rfl (fun w hw => ?_)
        refine ⟨?_, hw⟩
        first
          | rw [← hre, show r = [] from Classical.not_not.1 (by assumption), restW_nil]
          | rw [← hre, List.drop_of_length_le (by omega)]; rfl
    · skip
      refine V_pass (.n .p) (4, true) rfl rfl ?_   -- 2.5
      refine V_pass (.n .p) (4, true) rfl rfl ?_   -- 2.6
      refine V_pickF (.n _) rfl rfl rfl ?_   -- 2.7
      refine V_sub [(0, _), (1, _), (4, _), (5, _), (13, _)] ⟨rfl, rfl, rfl, rfl, rfl, trivial⟩ ?_
      refine V_nil (.inl rfl) ?_
      refine E_then ?_
      refine J_condF rfl ?_
      refine J_exit ?_
      refine E_then_exit ?_
      refine E_lp_exit ?_
      refine E_blk_hit ?_
      refine E_then ?_
      refine J_seq ?_
      refine J_region ?_
      refine V_mov (.n _) rfl rfl ?_   -- 6.0
      refine V_seql (.n _) rfl rfl rfl ?_   -- 6.1
      refine V_asg (.n _) rfl rfl ?_   -- 6.2
      refine V_sub [(0, _), (1, _), (4, _), (5, _), (13, _)] ⟨rfl, rfl, rfl, rfl, rfl, trivial⟩ ?_
      refine V_nil (.inl rfl) ?_
      refine E_then ?_
      refine J_ret ?_
      -- return R1
      refine E_ret1 Tryd.results68 rfl (fun w hw => ?_)
      refine ⟨?_, hw⟩
      first
        | rw [← hre, show r = [] from Classical.not_not.1 (by assumption), restW_nil]
        | rw [← hre, List.drop_of_length_le (by omega)]; rfl


theorem all_next {xs : List (List UInt8)} {k : Nat} {f : List UInt8 → Bool} (h : k < xs.length) : (xs.take (k + 1)).all f = ((xs.take k).all f && f (xs.getD k [])) := by
  rw [List.take_succ_eq_append_getElem h, List.all_append]
  simp [h]

theorem RefCovers_spec (w : World) (A : Option Addr) (c : Nat) (s : List UInt8) (xs : List (List UInt8)) (hl : xs.length ≤ 140737488351232) (hs : s.length ≤ 140737488351232) (hr : Rd w A (Ss xs)) :
    Calls Tryd.prog 27 #[.string ⟨s.toArray⟩, .slice A xs.length c] w fun e w' => e = .returned (.tuple #[.bool (coversR s xs).1, .int .i64 (coversR s xs).2]) ∧ St w [] w' := by
  refine calls (args := [.string ⟨s.toArray⟩, .slice A xs.length c]) Tryd.func27 rfl Tryd.ntmps27 (Nat.le_of_ble_eq_true rfl) (St.refl w) ?_
  refine J_seq ?_
  refine J_region ?_
  refine V_asg (.n _) rfl rfl ?_   -- 0.0
  refine V_asg (.n _) rfl rfl ?_   -- 0.1
  refine V_sub [(0, _), (1, _), (4, _), (5, _)] ⟨rfl, rfl, rfl, rfl, trivial⟩ ?_
  refine V_nil (.inl rfl) ?_
  refine E_then ?_
  refine J_seq ?_
  refine J_seq ?_
  refine J_region ?_
  refine V_mov (.n _) rfl rfl ?_   -- 1.0
  refine V_slen (.n _) Tryd.underlying9 rfl rfl ?_   -- 1.1
  refine V_gtr (.n _) rfl rfl rfl ?_   -- 1.2
  refine V_mov (.n _) rfl rfl ?_   -- 1.3
  refine V_split 12 rfl (fun h1 => ?_) (fun h1 => ?_)   -- guard 1.3
  · skip
    refine V_pass (.n .p) (3, false) rfl rfl ?_   -- 1.4
    refine V_pass (.n .p) (3, false) rfl rfl ?_   -- 1.5
    refine V_pass (.n .p) (3, false) rfl rfl ?_   -- 1.6
    refine V_pickT (.n _) rfl rfl rfl ?_   -- 1.7
    refine V_mov (.n _) rfl rfl ?_   -- 1.8
    refine V_pass (.n .p) (8, false) rfl rfl ?_   -- 1.9
    refine V_pass (.n .p) (8, false) rfl rfl ?_   -- 1.10
    refine V_pass (.n .p) (8, false) rfl rfl ?_   -- 1.11
    refine V_pickT (.n _) rfl rfl rfl ?_   -- 1.12
    refine V_sub [(0, _), (1, _), (4, _), (5, _), (21, _)] ⟨rfl, rfl, rfl, rfl, rfl, trivial⟩ ?_
    refine V_nil (.inl rfl) ?_
    refine E_then ?_
    refine J_condT rfl ?_
    refine J_seq ?_
    refine J_region ?_
    refine V_asg (.n _) rfl rfl ?_   -- 2.0
    refine V_asg (.n _) rfl rfl ?_   -- 2.1
    refine V_sub [(0, _), (1, _), (4, _), (5, _), (21, _)] ⟨rfl, rfl, rfl, rfl, rfl, trivial⟩ ?_
    refine V_nil (.inl rfl) ?_
    refine E_then ?_
    refine J_ret ?_
    refine E_then_ret ?_
    -- return R0
    refine E_ret2 Tryd.results27 rfl rfl (fun w hw => ?_)
    exact ⟨by rw [coversR, if_neg (by omega)], hw⟩
  · skip
    refine V_go (3, false) rfl ?_
    refine V_mov (.n _) rfl rfl ?_   -- 1.4
    refine V_go (3, false) rfl ?_
    refine V_call0 (.n _) Tryd.call53 (.cons rfl (.cons rfl .nil)) (fun w1 hw1 => trim_spec w1 letters s (by omega) (by decide) (by decide) (by decide)) rfl trivial ?_   -- 1.5
    refine V_go (3, false) rfl ?_
    refine V_sneq (.n _) rfl rfl rfl ?_   -- 1.6
    refine V_pickF (.n _) rfl rfl rfl ?_   -- 1.7
    refine V_mov (.n _) rfl rfl ?_   -- 1.8
    refine V_split 17 rfl (fun h2 => ?_) (fun h2 => ?_)   -- guard 1.8
    · skip
      refine V_pass (.n .p) (8, false) rfl rfl ?_   -- 1.9
      refine V_pass (.n .p) (8, false) rfl rfl ?_   -- 1.10
      refine V_pass (.n .p) (8, false) rfl rfl ?_   -- 1.11
      refine V_pickT (.n _) rfl rfl rfl ?_   -- 1.12
      refine V_sub [(0, _), (1, _), (4, _), (5, _), (21, _)] ⟨rfl, rfl, rfl, rfl, rfl, trivial⟩ ?_
      refine V_nil (.inl rfl) ?_
      refine E_then ?_
      refine J_condT rfl ?_
      refine J_seq ?_
      refine J_region ?_
      refine V_asg (.n _) rfl rfl ?_   -- 2.0
      refine V_asg (.n _) rfl rfl ?_   -- 2.1
      refine V_sub [(0, _), (1, _), (4, _), (5, _), (21, _)] ⟨rfl, rfl, rfl, rfl, rfl, trivial⟩ ?_
      refine V_nil (.inl rfl) ?_
      refine E_then ?_
      refine J_ret ?_
      refine E_then_ret ?_
      -- return R1
      refine E_ret2 Tryd.results27 rfl rfl (fun w hw => ?_)
      exact ⟨by rw [coversR, if_neg (fun hh => by simp_all)], hw⟩
    · skip
      refine V_go (8, false) rfl ?_
      refine V_mov (.n _) rfl rfl ?_   -- 1.9
      refine V_go (8, false) rfl ?_
      refine V_call0 (.n _) Tryd.call63 (.cons rfl .nil) (fun w1 hw1 => Words_spec w1 A c xs hl (hr.keep hw1)) rfl trivial ?_   -- 1.10
      refine V_go (8, false) rfl ?_
      refine V_notB (.n _) rfl rfl ?_   -- 1.11
      refine V_pickF (.n _) rfl rfl rfl ?_   -- 1.12
      refine V_sub [(0, _), (1, _), (4, _), (5, _), (21, _)] ⟨rfl, rfl, rfl, rfl, rfl, trivial⟩ ?_
      refine V_nil (.inl rfl) ?_
      refine E_then ?_
      refine J_condB rfl (fun h3 => ?_) (fun h3 => ?_)   -- C0
      · skip
        refine J_seq ?_
        refine J_region ?_
        refine V_asg (.n _) rfl rfl ?_   -- 2.0
        refine V_asg (.n _) rfl rfl ?_   -- 2.1
        refine V_sub [(0, _), (1, _), (4, _), (5, _), (21, _)] ⟨rfl, rfl, rfl, rfl, rfl, trivial⟩ ?_
        refine V_nil (.inl rfl) ?_
        refine E_then ?_
        refine J_ret ?_
        refine E_then_ret ?_
        -- return R2
        refine E_ret2 Tryd.results27 rfl rfl (fun w hw => ?_)
        exact ⟨by rw [coversR, if_neg (fun hh => by simp_all)], hw⟩
      · skip
        refine J_skip ?_
        refine E_then ?_
        refine J_seq ?_
        refine J_region ?_
        refine V_asg (.n _) rfl rfl ?_   -- 3.0
        refine V_sub [(0, _), (1, _), (4, _), (5, _), (6, _), (21, _)] ⟨rfl, rfl, rfl, rfl, rfl, rfl, trivial⟩ ?_
        refine V_nil (.inl rfl) ?_
        refine E_then ?_
        refine J_seq ?_
        refine J_seq ?_
        refine J_region ?_
        refine V_mov (.n _) rfl rfl ?_   -- 4.0
        refine V_len (.n _) Tryd.underlying22 rfl rfl ?_   -- 4.1
        refine V_mov (.n _) rfl rfl ?_   -- 4.2
        refine V_sub [(0, _), (1, _), (4, _), (5, _), (6, _), (21, _), (22, _), (23, _), (24, _)] ⟨rfl, rfl, rfl, rfl, rfl, rfl, rfl, rfl, rfl, trivial⟩ ?_
        refine V_nil (.inl rfl) ?_
        refine E_then ?_
        refine J_block ?_
        -- loop L0
        refine J_loop (X := Nat) (fun k => [(0, (.string ⟨s.toArray⟩)), (1, (.slice A xs.length c)), (4, (.bool false)), (5, (.int .i64 (0))), (6, .bool ((xs.take k).all fun r => decide (restW s r = []))), (22, (.slice A xs.length c)), (23, (.int .i64 ((xs.length : Nat) : Int))), (24, .int .i64 (k : Nat))]) (fun k => []) (fun k => k ≤ xs.length) (fun k => xs.length - k) (0) (by refine ⟨?_, ?_, ?_, ?_, ?_, ?_, ?_, ?_, trivial⟩ <;> first | rfl | exact int_eq (by omega)) (fun w h => h) ?_ ?_
        · omega
        · intro k hk
          refine J_seq ?_
          refine J_region ?_
          refine V_lss (.n _) rfl rfl rfl ?_   -- 5.0
          refine V_sub [(0, _), (1, _), (4, _), (5, _), (6, _), (22, _), (23, _), (24, _), (25, _)] ⟨rfl, rfl, rfl, rfl, rfl, rfl, rfl, rfl, rfl, trivial⟩ ?_
          refine V_nil (.inl rfl) ?_
          refine E_then ?_
          refine J_seq ?_
          refine J_cond rfl (fun h4 => ?_) (fun h4 => ?_)   -- C1
          · skip
            refine J_skip ?_
            refine E_then ?_
            refine J_seq ?_
            refine J_block ?_
            refine J_seq ?_
            refine J_region ?_
            first | refine V_ix (.n _) Tryd.underlying22 Tryd.sizeOf9 rfl rfl (by omega) (by omega) rfl ?_ | refine V_ixz (.n _) Tryd.underlying22 Tryd.sizeOf9 rfl rfl (hr.pl (by simp)) (by omega) (by omega) rfl ?_   -- 6.0
            first | refine V_ld (.n _) Tryd.isAgg9 rfl (by repeat (first | exact List.Mem.head _ | assumption | apply List.Mem.tail)) (by rfl) rfl ?_ | refine V_ldz (.n _) Tryd.isAgg9 rfl hr (Ss_getN (by omega)) rfl ?_   -- 6.1
            refine V_asg (.n _) rfl rfl ?_   -- 6.2
            refine V_sub [(0, _), (1, _), (4, _), (5, _), (6, _), (8, _), (22, _), (23, _), (24, _), (25, _)] ⟨rfl, rfl, rfl, rfl, rfl, rfl, rfl, rfl, rfl, rfl, trivial⟩ ?_
            refine V_nil (.inl rfl) ?_
            refine E_then ?_
            refine J_region ?_
            refine V_mov (.n _) rfl rfl ?_   -- 7.0
            refine V_mov (.n _) rfl rfl ?_   -- 7.1
            refine V_splitB 29 rfl (fun h5 => ?_) (fun h5 => ?_)   -- guard 7.1
            · have hb := h5
              refine V_go (1, true) rfl ?_
              refine V_mov (.n _) rfl rfl ?_   -- 7.2
              refine V_go (1, true) rfl ?_
              refine V_mov (.n _) rfl rfl ?_   -- 7.3
              refine V_go (1, true) rfl ?_
              refine V_call0 (.n _) Tryd.call68 (.cons rfl (.cons rfl .nil)) (fun w1 hw1 => cover1_spec w1 s (xs.getD k []) hs) rfl trivial ?_   -- 7.4
              refine V_pickT (.n _) rfl rfl rfl ?_   -- 7.5
              refine V_asg (.n _) rfl rfl ?_   -- 7.6
              refine V_sub [(0, _), (1, _), (4, _), (5, _), (6, _), (8, _), (22, _), (23, _), (24, _), (25, _)] ⟨rfl, rfl, rfl, rfl, rfl, rfl, rfl, rfl, rfl, rfl, trivial⟩ ?_
              refine V_nil (.inl rfl) ?_
              refine E_blk ?_
              refine E_then ?_
              refine J_region ?_
              refine V_add (.n _) rfl rfl (wrap_ok (by omega)) rfl ?_   -- 8.0
              refine V_mov (.n _) rfl rfl ?_   -- 8.1
              refine V_sub [(0, _), (1, _), (4, _), (5, _), (6, _), (8, _), (22, _), (23, _), (24, _), (25, _)] ⟨rfl, rfl, rfl, rfl, rfl, rfl, rfl, rfl, rfl, rfl, trivial⟩ ?_
              refine V_nil (.inl rfl) ?_
              -- again L0 0
              have hall := all_next (xs := xs) (k := k) (f := fun r => decide (restW s r = [])) (by omega)
              refine E_again (k + 1) ?_ ?_ ?_ (fun w h => h)
              · omega
              · omega
              · refine ⟨rfl, rfl, rfl, rfl, ?_, rfl, rfl, int_eq (by omega), trivial⟩
                exact congrArg (fun b => some (Value.bool b)) (hall.trans (by rw [hb]; rfl)).symm
            · have hb := h5
              refine V_pass (.n .p) (1, true) rfl rfl ?_   -- 7.2
              refine V_pass (.n .p) (1, true) rfl rfl ?_   -- 7.3
              refine V_pass (.n .p) (1, true) rfl rfl ?_   -- 7.4
              refine V_pickF (.n _) rfl rfl rfl ?_   -- 7.5
              refine V_asg (.n _) rfl rfl ?_   -- 7.6
              refine V_sub [(0, _), (1, _), (4, _), (5, _), (6, _), (8, _), (22, _), (23, _), (24, _), (25, _)] ⟨rfl, rfl, rfl, rfl, rfl, rfl, rfl, rfl, rfl, rfl, trivial⟩ ?_
              refine V_nil (.inl rfl) ?_
              refine E_blk ?_
              refine E_then ?_
              refine J_region ?_
              refine V_add (.n _) rfl rfl (wrap_ok (by omega)) rfl ?_   -- 8.0
              refine V_mov (.n _) rfl rfl ?_   -- 8.1
              refine V_sub [(0, _), (1, _), (4, _), (5, _), (6, _), (8, _), (22, _), (23, _), (24, _), (25, _)] ⟨rfl, rfl, rfl, rfl, rfl, rfl, rfl, rfl, rfl, rfl, trivial⟩ ?_
              refine V_nil (.inl rfl) ?_
              -- again L0 1
              have hall := all_next (xs := xs) (k := k) (f := fun r => decide (restW s r = [])) (by omega)
              refine E_again (k + 1) ?_ ?_ ?_ (fun w h => h)
              · omega
              · omega
              · refine ⟨rfl, rfl, rfl, rfl, ?_, rfl, rfl, int_eq (by omega), trivial⟩
                exact congrArg (fun b => some (Value.bool b)) (hall.trans (by rw [hb]; rfl)).symm
          · skip
            refine J_exit ?_
            refine E_then_exit ?_
            refine E_lp_exit ?_
            refine E_blk_hit ?_
            refine E_then ?_
            refine J_seq ?_
            refine J_region ?_
            refine V_mov (.n _) rfl rfl ?_   -- 9.0
            refine V_asg (.n _) rfl rfl ?_   -- 9.1
            refine V_asg (.n _) rfl rfl ?_   -- 9.2
            refine V_sub [(0, _), (1, _), (4, _), (5, _), (6, _), (22, _), (23, _), (24, _), (25, _)] ⟨rfl, rfl, rfl, rfl, rfl, rfl, rfl, rfl, rfl, trivial⟩ ?_
            refine V_nil (.inl rfl) ?_
            refine E_then ?_
            refine J_ret ?_
            -- return R3
            refine E_ret2 Tryd.results27 rfl rfl (fun w hw => ?_)
            refine ⟨?_, hw⟩
            obtain rfl : k = xs.length := by omega
            rw [coversR, if_pos ⟨by simp_all, by omega, by simp_all⟩, covers_rest, List.take_length]

end Go.Proofs.YtgeahmmepfmcoaaDoor
