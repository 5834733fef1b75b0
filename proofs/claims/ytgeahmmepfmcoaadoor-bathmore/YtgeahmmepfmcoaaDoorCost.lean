/- parts of the proofs of the bath statements -/
import Derived.Test.YtgeahmmepfmcoaaDoorPrices
namespace Go.Proofs.YtgeahmmepfmcoaaDoor
open Go Go.RowKit L
set_option linter.unusedVariables false
set_option linter.unusedSimpArgs false

/-! orders, bath by bath -/
def ns (os : List Int) : List Nat := os.map Int.toNat
@[simp] theorem ns_length (os : List Int) : (ns os).length = os.length := by simp [ns]
def inR (n : Nat) (os : List Int) : Bool := os.all fun j => decide (0 ≤ j) && decide (j < n)
def ordB (n : Nat) (B : Pairs) (os : List Int) : Bool := decide (os.length = n) && inR n os && okO n B 0 (ns os)
def costR (st : List Int) (ch : Rows2) (be : List (Int × Int)) (os : List Int) : Int × Int :=
  if validP st ch be = false then (0, 2) else if ordB st.length (natB be) os = true then (sumO st ch none (ns os), 0) else (0, 6)
theorem ns_take {os : List Int} {k : Nat} (h : k < os.length) : (ns os).take (k + 1) = (ns os).take k ++ [(os.getD k 0).toNat] := by
  rw [List.take_succ_eq_append_getElem (by simpa using h)]
  simp [ns, h]
theorem okO_app {n : Nat} {B : Pairs} {j : Nat} : ∀ (l : List Nat) (s : Nat), okO n B s (l ++ [j]) = (okO n B s l && (decide (j < n) && fol B (endO s l) j))
  | [], s => by simp [okO, endO]
  | x :: l, s => by
    show (decide (x < n) && fol B s x && okO n B (s ||| 2 ^ x) (l ++ [j])) = (decide (x < n) && fol B s x && okO n B (s ||| 2 ^ x) l && (decide (j < n) && fol B (endO (s ||| 2 ^ x) l) j))
    rw [okO_app l, Bool.and_assoc, Bool.and_assoc, Bool.and_assoc]
theorem okO_pre {n : Nat} {B : Pairs} (r : List Nat) : ∀ (l : List Nat) (s : Nat), okO n B s (l ++ r) = true → okO n B s l = true
  | [], s, _ => rfl
  | x :: l, s, h => by
    simp only [List.cons_append, okO, Bool.and_eq_true] at h ⊢
    exact ⟨h.1, okO_pre r l _ h.2⟩
theorem endO_app {j : Nat} : ∀ (l : List Nat) (s : Nat), endO s (l ++ [j]) = endO s l ||| 2 ^ j
  | [], s => rfl
  | x :: l, s => endO_app l _
def lastO : Option Nat → List Nat → Option Nat
  | o, [] => o
  | _, j :: l => lastO (some j) l
theorem lastO_app {j : Nat} : ∀ (l : List Nat) (o : Option Nat), lastO o (l ++ [j]) = some j
  | [], o => rfl
  | x :: l, o => lastO_app l _
theorem sumO_app {st : List Int} {ch : Rows2} {j : Nat} : ∀ (l : List Nat) (o : Option Nat), sumO st ch o (l ++ [j]) = sumO st ch o l + after1 st ch (lastO o l) j
  | [], o => by simp [sumO, lastO]
  | x :: l, o => by
    show after1 st ch o x + sumO st ch (some x) (l ++ [j]) = after1 st ch o x + sumO st ch (some x) l + after1 st ch (lastO (some x) l) j
    rw [sumO_app l]; omega
theorem lastO_take {os : List Int} {k : Nat} (h : k < os.length) : lastO none ((ns os).take (k + 1)) = some (os.getD k 0).toNat := by
  rw [ns_take h, lastO_app]
theorem sumO_bd {n : Nat} {st : List Int} {ch : Rows2} (h : PlanOk n st ch) : ∀ (l : List Nat) (o : Option Nat), (∀ i, o = some i → i < n) → (∀ j ∈ l, j < n) → 0 ≤ sumO st ch o l ∧ sumO st ch o l ≤ 1000 * l.length
  | [], o, _, _ => by simp [sumO]
  | j :: l, o, ho, hl => by
    have h1 := after1_bd h ho (hl j (by simp))
    have h2 := sumO_bd h l (some j) (fun i hi => by cases hi; exact hl j (by simp)) (fun x hx => hl x (by simp [hx]))
    show 0 ≤ after1 st ch o j + sumO st ch (some j) l ∧ after1 st ch o j + sumO st ch (some j) l ≤ 1000 * (j :: l).length
    rw [List.length_cons]; omega
theorem okO_lt {n : Nat} {B : Pairs} : ∀ (l : List Nat) (s : Nat), okO n B s l = true → ∀ j ∈ l, j < n
  | [], s, _, j, hj => by simp at hj
  | x :: l, s, h, j, hj => by
    simp only [okO, Bool.and_eq_true, decide_eq_true_eq] at h
    rcases List.mem_cons.1 hj with rfl | hj
    · exact h.1.1
    · exact okO_lt l _ h.2 j hj
theorem ordB_out {n : Nat} {B : Pairs} {os : List Int} {k : Nat} (hk : k < os.length) (h : ¬ (0 ≤ os.getD k 0 ∧ os.getD k 0 < n)) : ordB n B os = false := by
  have : inR n os = false := List.all_eq_false.2 ⟨_, getD_mem (d := 0) hk, by simp only [Bool.and_eq_true, decide_eq_true_eq]; exact h⟩
  rw [ordB, this, Bool.and_false, Bool.false_and]
theorem ordB_fol {n : Nat} {B : Pairs} {os : List Int} {k : Nat} (hk : k < os.length) (h : fol B (endO 0 ((ns os).take k)) (os.getD k 0).toNat = false) : ordB n B os = false := by
  cases ho : ordB n B os with
  | false => rfl
  | true =>
    unfold ordB at ho
    simp only [Bool.and_eq_true] at ho
    have h1 : ns os = (ns os).take (k + 1) ++ (ns os).drop (k + 1) := (List.take_append_drop _ _).symm
    rw [h1] at ho
    have h2 := okO_pre _ _ _ ho.2
    rw [ns_take hk, okO_app, h] at h2
    simp at h2
theorem ordB_len {n : Nat} {B : Pairs} {os : List Int} (h : os.length ≠ n) : ordB n B os = false := by
  rw [ordB, decide_eq_false h]; rfl
theorem ordB_yes {n : Nat} {B : Pairs} {os : List Int} (hl : os.length = n) (h1 : okO n B 0 ((ns os).take n) = true) (h2 : ∀ i, i < n → 0 ≤ os.getD i 0 ∧ os.getD i 0 < n) : ordB n B os = true := by
  have : inR n os = true := List.all_eq_true.2 fun x hx => by
    obtain ⟨i, hi, rfl⟩ := List.mem_iff_getElem.1 hx
    have := h2 i (by omega)
    simp only [List.getD_eq_getElem?_getD, hi, List.getElem?_eq_getElem, Option.getD_some] at this
    simp only [Bool.and_eq_true, decide_eq_true_eq]; exact this
  rw [List.take_of_length_le (by rw [ns_length]; omega)] at h1
  rw [ordB, decide_eq_true hl, this, h1]; rfl
theorem okO_next {n : Nat} {B : Pairs} {os : List Int} {k j : Nat} (hk : k < os.length) (he : os.getD k 0 = (j : Int)) (hj : j < n) (h : okO n B 0 ((ns os).take k) = true) (hf : fol B (endO 0 ((ns os).take k)) j = true) :
    okO n B 0 ((ns os).take (k + 1)) = true ∧ endO 0 ((ns os).take (k + 1)) = endO 0 ((ns os).take k) ||| 2 ^ j := by
  have e : (os.getD k 0).toNat = j := by omega
  rw [ns_take hk, e, okO_app, endO_app, h, hf, decide_eq_true hj]
  exact ⟨rfl, rfl⟩
theorem endO_lt {n : Nat} {B : Pairs} {l : List Nat} (h : okO n B 0 l = true) : endO 0 l < 2 ^ n := (okO_pc l 0 (Nat.pow_pos (by decide)) h).2
theorem sumO_first {st : List Int} {ch : Rows2} {os : List Int} {j : Nat} (h : 0 < os.length) (he : os.getD 0 0 = (j : Int)) : sumO st ch none ((ns os).take (0 + 1)) = st.getD j 0 := by
  rw [ns_take h, he, sumO_app]
  simp [sumO, lastO, after1]
theorem sumO_next {st : List Int} {ch : Rows2} {os : List Int} {k i j : Nat} (h : k + 1 < os.length) (he : os.getD k 0 = (i : Int)) (he2 : os.getD (k + 1) 0 = (j : Int)) : sumO st ch none ((ns os).take (k + 1 + 1)) = sumO st ch none ((ns os).take (k + 1)) + cst ch i j := by
  rw [ns_take h, he2, sumO_app, lastO_take (by omega), he]
  rfl

theorem least_spec (w : World) (A1 A2 A3 : Option Addr) (c1 c2 c3 : Nat) (vs : List Value) (st : List Int) (ch : Rows2) (be : List (Int × Int)) (hl1 : st.length ≤ 140737488351232) (hl2 : ch.length ≤ 140737488351232) (hl3 : be.length ≤ 140737488351232) (hp : PR w A1 A2 A3 vs st ch be) (hv : VP st ch be) (AT : Option Addr) (cT : Nat) (ts : List Int) (ht : Rd w AT (I ts)) (htl : ts.length = st.length * 2 ^ st.length) (htb : ∀ i, -1099511627776 ≤ ts.getD i 0 ∧ ts.getD i 0 ≤ 1099511627776) :
    Calls Tryd.prog 77 #[.agg #[.slice A1 st.length c1, .slice A2 ch.length c2, .slice A3 be.length c3], .slice AT ts.length cT] w fun e w' => e = .returned (.int .i64 (leastP st.length st (natB be) ts)) ∧ St w [] w' := by
  have hn10 := hv.n10
  have hn01 := hv.n1
  have hp1 := pow1024 hn10
  have hN := n2n hn10
  have hp0 := Nat.pow_pos (n := st.length) (show 0 < 2 by decide)
  have hchl := hv.chl
  have hfar : far2 = 1099511627776 := rfl
  refine calls (args := [.agg #[.slice A1 st.length c1, .slice A2 ch.length c2, .slice A3 be.length c3], .slice AT ts.length cT]) Tryd.func77 rfl Tryd.ntmps77 (Nat.le_of_ble_eq_true rfl) (St.refl w) ?_
  refine J_seq ?_
  refine J_region ?_
  refine V_box (.n _) rfl rfl rfl (fun _ => trivial) (fun b2 => ?_)   -- 0.0
  refine V_asg (.n _) rfl rfl ?_   -- 0.1
  refine V_sub [(0, _), (1, _), (2, _), (4, _)] ⟨rfl, rfl, rfl, rfl, trivial⟩ ?_
  refine V_nil (.inl rfl) ?_
  refine E_then ?_
  refine J_seq ?_
  refine J_draw (Gs := _) (cl := [.p, .r, .p, .r, .e, .p, .p]) (by kernel_rfl) (fun _ _ h => h) ?_
  first | refine V_fa0 (.s _ _ _) fo51_0 rfl rfl ?_ | refine V_faz (.s _ _ _) fo51_0 rfl rfl ?_ | refine V_fa (.s _ _ _) fo51_0 rfl rfl ?_   -- 1.0
  refine V_ld (.s _ _ _) Tryd.isAgg34 rfl (by repeat (first | exact List.Mem.head _ | assumption | apply List.Mem.tail)) (by rfl) rfl ?_   -- 1.1
  refine V_len (.s _ _ _) Tryd.underlying34 rfl rfl ?_   -- 1.2
  refine V_ldN (.s _ _ _) Tryd.isAgg51 Tryd.sizeOf51 rfl (by repeat (first | exact List.Mem.head _ | assumption | apply List.Mem.tail)) (by rfl) rfl rfl ?_   -- 1.3
  refine V_call (post := fun v D => ∃ b, v = .slice (some ⟨b, 0, none⟩) st.length st.length ∧ D = [.c b 3 (I (needT st.length (natB be)))]) (.s _ _ _) Tryd.call75 (.cons rfl .nil) (fun w1 hw1 => needs_spec w1 A1 A2 A3 c1 c2 c3 vs st ch be hl1 hl2 hl3 (hp.keep hw1) hv) rfl (fun _ _ h => h.sublist (by simp)) ?_
  rintro v D ⟨bN, rfl, rfl⟩
  refine V_asg (.s _ _ _) rfl rfl ?_   -- 1.5
  refine V_asg (.s _ _ _) rfl rfl ?_   -- 1.6
  refine V_sub [(0, _), (1, _), (2, _), (4, _), (5, _), (6, _)] ⟨rfl, rfl, rfl, rfl, rfl, rfl, trivial⟩ ?_
  refine V_nil (.inr ⟨_, rfl⟩) ?_
  refine E_then ?_
  refine J_seq ?_
  refine J_region ?_
  refine V_asg (.n _) rfl rfl ?_   -- 2.0
  refine V_sub [(0, _), (1, _), (2, _), (4, _), (5, _), (6, _), (7, _)] ⟨rfl, rfl, rfl, rfl, rfl, rfl, rfl, trivial⟩ ?_
  refine V_nil (.inl rfl) ?_
  refine E_then ?_
  refine J_seq ?_
  refine J_seq ?_
  refine J_region ?_
  first | refine V_fa0 (.n _) fo51_0 rfl rfl ?_ | refine V_faz (.n _) fo51_0 rfl rfl ?_ | refine V_fa (.n _) fo51_0 rfl rfl ?_   -- 3.0
  refine V_ld (.n _) Tryd.isAgg34 rfl (by repeat (first | exact List.Mem.head _ | assumption | apply List.Mem.tail)) (by rfl) rfl ?_   -- 3.1
  refine V_len (.n _) Tryd.underlying34 rfl rfl ?_   -- 3.2
  refine V_mov (.n _) rfl rfl ?_   -- 3.3
  refine V_sub [(0, _), (1, _), (2, _), (4, _), (5, _), (6, _), (7, _), (16, _), (17, _), (18, _)] ⟨rfl, rfl, rfl, rfl, rfl, rfl, rfl, rfl, rfl, rfl, trivial⟩ ?_
  refine V_nil (.inl rfl) ?_
  refine E_then ?_
  refine J_block ?_
  -- loop L0
  refine J_loop (X := Nat) (fun i => [(0, (.agg #[.slice A1 st.length c1, .slice A2 ch.length c2, .slice A3 be.length c3])), (1, (.slice AT ts.length cT)), (2, (.pointer (some ⟨b2, 0, none⟩))), (4, (.int .i64 (0))), (5, (.int .i64 (st.length : Nat))), (6, (.slice (some ⟨bN, 0, none⟩) st.length st.length)), (7, .int .i64 (bestJ (natB be) (fun i => st.getD i 0 + ts.getD (st.length * 2 ^ i + i) 0) 0 (2 * far2) (List.range i))), (16, (.slice A1 st.length c1)), (17, (.int .i64 ((st.length : Nat) : Int))), (18, .int .i64 (i : Nat))]) (fun i => [.c bN 3 (I (needT st.length (natB be))), .c b2 51 [.slice A1 st.length c1, .slice A2 ch.length c2, .slice A3 be.length c3]]) (fun i => i ≤ st.length) (fun i => st.length - i) (0) (by refine ⟨?_, ?_, ?_, ?_, ?_, ?_, ?_, ?_, ?_, ?_, trivial⟩ <;> first | rfl | exact int_eq (by omega) | exact int_eq rfl) (fun w h => h) ?_ ?_
  · omega
  · intro i hi
    refine J_seq ?_
    refine J_region ?_
    refine V_lss (.n _) rfl rfl rfl ?_   -- 4.0
    refine V_sub [(0, _), (1, _), (2, _), (4, _), (5, _), (6, _), (7, _), (16, _), (17, _), (18, _), (19, _)] ⟨rfl, rfl, rfl, rfl, rfl, rfl, rfl, rfl, rfl, rfl, rfl, trivial⟩ ?_
    refine V_nil (.inl rfl) ?_
    refine E_then ?_
    refine J_seq ?_
    refine J_cond rfl (fun h1 => ?_) (fun h1 => ?_)   -- C0
    · skip
      refine J_skip ?_
      refine E_then ?_
      refine J_seq ?_
      refine J_block ?_
      refine J_seq ?_
      refine J_region ?_
      refine V_mov (.n _) rfl rfl ?_   -- 5.0
      first | refine V_ix (.n _) Tryd.underlying34 Tryd.sizeOf3 rfl rfl (by omega) (by omega) rfl ?_ | refine V_ixz (.n _) Tryd.underlying34 Tryd.sizeOf3 rfl rfl (hp.h1.pl (by simp)) (by omega) (by omega) rfl ?_ | refine V_ixz (.n _) Tryd.underlying34 Tryd.sizeOf3 rfl rfl (ht.pl (by simp)) (by omega) (by omega) rfl ?_   -- 5.1
      refine V_ldz (.n _) Tryd.isAgg3 rfl hp.h1 (I_getN (i := i) (by omega)) rfl ?_   -- 5.2
      have hsb := hv.ok.start i (by omega)
      refine V_asg (.n _) rfl rfl ?_   -- 5.3
      refine V_asg (.n _) rfl rfl ?_   -- 5.4
      refine V_sub [(0, _), (1, _), (2, _), (4, _), (5, _), (6, _), (7, _), (8, _), (9, _), (16, _), (17, _), (18, _), (19, _)] ⟨rfl, rfl, rfl, rfl, rfl, rfl, rfl, rfl, rfl, rfl, rfl, rfl, rfl, trivial⟩ ?_
      refine V_nil (.inl rfl) ?_
      refine E_then ?_
      refine J_seq ?_
      refine J_region ?_
      refine V_mov (.n _) rfl rfl ?_   -- 6.0
      refine V_mov (.n _) rfl rfl ?_   -- 6.1
      first | refine V_ix (.n _) Tryd.underlying34 Tryd.sizeOf3 rfl rfl (by omega) (by omega) rfl ?_ | refine V_ixz (.n _) Tryd.underlying34 Tryd.sizeOf3 rfl rfl (hp.h1.pl (by simp)) (by omega) (by omega) rfl ?_ | refine V_ixz (.n _) Tryd.underlying34 Tryd.sizeOf3 rfl rfl (ht.pl (by simp)) (by omega) (by omega) rfl ?_   -- 6.2
      refine V_ld (.n _) Tryd.isAgg3 rfl (by repeat (first | exact List.Mem.head _ | assumption | apply List.Mem.tail)) (I_getN (xs := needT st.length (natB be)) (i := i) (by simp; omega)) rfl ?_   -- 6.3
      rw [needT_get (by omega)]
      refine V_eql (.n _) rfl rfl rfl ?_   -- 6.4
      rw [fol0]
      refine V_sub [(0, _), (1, _), (2, _), (4, _), (5, _), (6, _), (7, _), (8, _), (9, _), (16, _), (17, _), (18, _), (19, _), (27, _)] ⟨rfl, rfl, rfl, rfl, rfl, rfl, rfl, rfl, rfl, rfl, rfl, rfl, rfl, rfl, trivial⟩ ?_
      refine V_nil (.inl rfl) ?_
      refine E_then ?_
      refine J_condB rfl (fun h2 => ?_) (fun h2 => ?_)   -- C1
      · skip
        refine J_region ?_
        refine V_mov (.n _) rfl rfl ?_   -- 7.0
        refine V_mov (.n _) rfl rfl ?_   -- 7.1
        refine V_mov (.n _) rfl rfl ?_   -- 7.2
        refine V_mov (.n _) rfl rfl ?_   -- 7.3
        refine V_mov (.n _) rfl rfl ?_   -- 7.4
        have h2i := Nat.pow_lt_pow_right (a := 2) (by decide) (show i < st.length by omega)
        have hix := ix_lt (n := st.length) (s := 2 ^ i) (i := i) (m := 2 ^ st.length) (by omega) h2i
        have hbt := htb (st.length * 2 ^ i + i)
        refine V_shl (.n _) rfl rfl (by omega) (by simp [IntKind.bits]; omega) (by rw [shl_natk]; exact wrap_nat (by omega)) rfl ?_   -- 7.5
        rw [shl_natk]
        refine V_mov (.n _) rfl rfl ?_   -- 7.6
        refine V_add (.n _) rfl rfl (wrap_ok (by omega)) rfl ?_   -- 7.7
        rw [show ((st.length * 2 ^ i : Nat) : Int) + (i : Int) = ((st.length * 2 ^ i + i : Nat) : Int) by omega]
        first | refine V_ix (.n _) Tryd.underlying34 Tryd.sizeOf3 rfl rfl (by omega) (by omega) rfl ?_ | refine V_ixz (.n _) Tryd.underlying34 Tryd.sizeOf3 rfl rfl (hp.h1.pl (by simp)) (by omega) (by omega) rfl ?_ | refine V_ixz (.n _) Tryd.underlying34 Tryd.sizeOf3 rfl rfl (ht.pl (by simp)) (by omega) (by omega) rfl ?_   -- 7.8
        refine V_ldz (.n _) Tryd.isAgg3 rfl ht (I_getN (i := st.length * 2 ^ i + i) (by omega)) rfl ?_   -- 7.9
        refine V_add (.n _) rfl rfl (wrap_ok (by omega)) rfl ?_   -- 7.10
        refine V_min (.n _) rfl rfl rfl ?_   -- 7.11
        refine V_asg (.n _) rfl rfl ?_   -- 7.12
        refine V_sub [(0, _), (1, _), (2, _), (4, _), (5, _), (6, _), (7, _), (8, _), (9, _), (16, _), (17, _), (18, _), (19, _), (27, _)] ⟨rfl, rfl, rfl, rfl, rfl, rfl, rfl, rfl, rfl, rfl, rfl, rfl, rfl, rfl, trivial⟩ ?_
        refine V_nil (.inl rfl) ?_
        refine E_blk ?_
        refine E_then ?_
        refine J_region ?_
        refine V_add (.n _) rfl rfl (wrap_ok (by omega)) rfl ?_   -- 8.0
        refine V_mov (.n _) rfl rfl ?_   -- 8.1
        refine V_sub [(0, _), (1, _), (2, _), (4, _), (5, _), (6, _), (7, _), (8, _), (9, _), (16, _), (17, _), (18, _), (19, _), (27, _)] ⟨rfl, rfl, rfl, rfl, rfl, rfl, rfl, rfl, rfl, rfl, rfl, rfl, rfl, rfl, trivial⟩ ?_
        refine V_nil (.inl rfl) ?_
        -- again L0 0
        have hnx := bestJ_yes (f := fun i => st.getD i 0 + ts.getD (st.length * 2 ^ i + i) 0) (m := 2 * far2) (by assumption : fol (natB be) 0 i = true)
        refine E_again (i + 1) ?_ ?_ ?_ (fun w h => h)
        · omega
        · omega
        · refine ⟨?_, ?_, ?_, ?_, ?_, ?_, ?_, ?_, ?_, ?_, trivial⟩ <;> first | rfl | exact int_eq hnx.symm | exact int_eq (by omega)
      · skip
        refine J_skip ?_
        refine E_blk ?_
        refine E_then ?_
        refine J_region ?_
        refine V_add (.n _) rfl rfl (wrap_ok (by omega)) rfl ?_   -- 8.0
        refine V_mov (.n _) rfl rfl ?_   -- 8.1
        refine V_sub [(0, _), (1, _), (2, _), (4, _), (5, _), (6, _), (7, _), (8, _), (9, _), (16, _), (17, _), (18, _), (19, _), (27, _)] ⟨rfl, rfl, rfl, rfl, rfl, rfl, rfl, rfl, rfl, rfl, rfl, rfl, rfl, rfl, trivial⟩ ?_
        refine V_nil (.inl rfl) ?_
        -- again L0 1
        have hnx := bestJ_no (f := fun i => st.getD i 0 + ts.getD (st.length * 2 ^ i + i) 0) (m := 2 * far2) (by assumption : fol (natB be) 0 i = false)
        refine E_again (i + 1) ?_ ?_ ?_ (fun w h => h)
        · omega
        · omega
        · refine ⟨?_, ?_, ?_, ?_, ?_, ?_, ?_, ?_, ?_, ?_, trivial⟩ <;> first | rfl | exact int_eq hnx.symm | exact int_eq (by omega)
    · skip
      refine J_exit ?_
      refine E_then_exit ?_
      refine E_lp_exit ?_
      refine E_blk_hit ?_
      refine E_then ?_
      refine J_seq ?_
      refine J_region ?_
      refine V_mov (.n _) rfl rfl ?_   -- 9.0
      refine V_asg (.n _) rfl rfl ?_   -- 9.1
      refine V_sub [(0, _), (1, _), (2, _), (4, _), (5, _), (6, _), (7, _), (16, _), (17, _), (18, _), (19, _)] ⟨rfl, rfl, rfl, rfl, rfl, rfl, rfl, rfl, rfl, rfl, rfl, trivial⟩ ?_
      refine V_nil (.inl rfl) ?_
      refine E_then ?_
      refine J_ret ?_
      -- return R0
      refine E_ret1 Tryd.results77 rfl (fun w hw => ?_)
      obtain rfl : i = st.length := by omega
      exact ⟨rfl, hw.sub (fun x hx => by simp at hx) (by simp [keys])⟩


theorem ix_inj {n s i s2 j : Nat} (hi : i < n) (hj : j < n) : n * s + i = n * s2 + j → s = s2 := fun h => by
  have h1 := (ix_div (s := s) hi).1
  have h2 := (ix_div (s := s2) hj).1
  rw [h] at h1; omega

theorem rprices_spec (w : World) (A1 A2 A3 : Option Addr) (c1 c2 c3 : Nat) (vs : List Value) (st : List Int) (ch : Rows2) (be : List (Int × Int)) (hl1 : st.length ≤ 140737488351232) (hl2 : ch.length ≤ 140737488351232) (hl3 : be.length ≤ 140737488351232) (hp : PR w A1 A2 A3 vs st ch be) (hv : VP st ch be) : Calls Tryd.prog 82 #[.agg #[.slice A1 st.length c1, .slice A2 ch.length c2, .slice A3 be.length c3]] w fun e w' => ∃ v D, e = .returned v ∧ St w D w' ∧ ∃ b, v = .slice (some ⟨b, 0, none⟩) (st.length * 2 ^ st.length) (st.length * 2 ^ st.length) ∧ D = [.c b 3 (I (priceT st.length ch (natB be)))] := by
  have hn10 := hv.n10
  have hn01 := hv.n1
  have hp1 := pow1024 hn10
  have hN := n2n hn10
  have hp0 := Nat.pow_pos (n := st.length) (show 0 < 2 by decide)
  have hchl := hv.chl
  have hfar : far2 = 1099511627776 := rfl
  refine calls (args := [.agg #[.slice A1 st.length c1, .slice A2 ch.length c2, .slice A3 be.length c3]]) Tryd.func82 rfl Tryd.ntmps82 (Nat.le_of_ble_eq_true rfl) (St.refl w) ?_
  refine J_seq ?_
  refine J_region ?_
  refine V_box (.n _) rfl rfl rfl (fun _ => trivial) (fun b1 => ?_)   -- 0.0
  refine V_asg (.n _) rfl rfl ?_   -- 0.1
  refine V_sub [(0, _), (1, _), (2, _)] ⟨rfl, rfl, rfl, trivial⟩ ?_
  refine V_nil (.inl rfl) ?_
  refine E_then ?_
  refine J_seq ?_
  refine J_region ?_
  first | refine V_fa0 (.n _) fo48_0 rfl rfl ?_ | refine V_faz (.n _) fo48_0 rfl rfl ?_ | refine V_fa (.n _) fo48_0 rfl rfl ?_   -- 1.0
  refine V_ld (.n _) Tryd.isAgg34 rfl (by repeat (first | exact List.Mem.head _ | assumption | apply List.Mem.tail)) (by rfl) rfl ?_   -- 1.1
  refine V_len (.n _) Tryd.underlying34 rfl rfl ?_   -- 1.2
  refine V_asg (.n _) rfl rfl ?_   -- 1.3
  refine V_sub [(0, _), (1, _), (2, _), (3, _)] ⟨rfl, rfl, rfl, rfl, trivial⟩ ?_
  refine V_nil (.inl rfl) ?_
  refine E_then ?_
  refine J_seq ?_
  refine J_region ?_
  refine V_mov (.n _) rfl rfl ?_   -- 2.0
  refine V_mov (.n _) rfl rfl ?_   -- 2.1
  refine V_shl (.n _) rfl rfl (by omega) (by simp [IntKind.bits]; omega) (by rw [shl_natk]; exact wrap_nat (by omega)) rfl ?_   -- 2.2
  rw [shl_natk]
  refine V_make1 (.n _) Tryd.underlying34 Tryd.typeInfo3 rfl rfl rfl rfl rfl rfl (by omega) rfl (fun _ => trivial) (fun b15 => ?_)   -- 2.3
  refine V_asg (.n _) rfl rfl ?_   -- 2.4
  refine V_sub [(0, _), (1, _), (2, _), (3, _), (4, _)] ⟨rfl, rfl, rfl, rfl, rfl, trivial⟩ ?_
  refine V_nil (.inl rfl) ?_
  refine E_then ?_
  refine J_seq ?_
  refine J_seq ?_
  refine J_region ?_
  refine V_mov (.n _) rfl rfl ?_   -- 3.0
  refine V_shl (.n _) rfl rfl (by omega) (by simp [IntKind.bits]; omega) (by rw [shl_nat]; exact wrap_nat (by omega)) rfl ?_   -- 3.1
  rw [shl_nat]
  refine V_sub1 (.n _) rfl rfl (wrap_ok (by omega)) rfl ?_   -- 3.2
  refine V_asg (.n _) rfl rfl ?_   -- 3.3
  refine V_sub [(0, _), (1, _), (2, _), (3, _), (4, _), (5, _)] ⟨rfl, rfl, rfl, rfl, rfl, rfl, trivial⟩ ?_
  refine V_nil (.inl rfl) ?_
  refine E_then ?_
  refine J_block ?_
  -- loop L0
  refine J_loop (X := Nat) (fun q => [(0, (.agg #[.slice A1 st.length c1, .slice A2 ch.length c2, .slice A3 be.length c3])), (1, (.pointer (some ⟨b1, 0, none⟩))), (2, (.slice none 0 0)), (3, (.int .i64 (st.length : Nat))), (4, (.slice (some ⟨b15, 0, none⟩) (st.length * 2 ^ st.length) (st.length * 2 ^ st.length))), (5, .int .i64 ((q : Nat) - 1 : Int))]) (fun q => [.c b15 3 (I (prG 0 st.length ch (natB be) q 0)), .c b1 48 [.slice A1 st.length c1, .slice A2 ch.length c2, .slice A3 be.length c3]]) (fun q => q ≤ 2 ^ st.length) (fun q => q) (2 ^ st.length) (by refine ⟨?_, ?_, ?_, ?_, ?_, ?_, trivial⟩ <;> first | rfl | exact int_eq (by omega)) (fun w h => by rw [prG_start, I_repl]; exact h) ?_ ?_
  · exact Nat.le_refl _
  · intro q hq2
    refine J_seq ?_
    refine J_seq ?_
    refine J_region ?_
    refine V_mov (.n _) rfl rfl ?_   -- 4.0
    refine V_geq (.n _) rfl rfl rfl ?_   -- 4.1
    refine V_sub [(0, _), (1, _), (2, _), (3, _), (4, _), (5, _), (20, _)] ⟨rfl, rfl, rfl, rfl, rfl, rfl, rfl, trivial⟩ ?_
    refine V_nil (.inl rfl) ?_
    refine E_then ?_
    refine J_cond rfl (fun h1 => ?_) (fun h1 => ?_)   -- C0
    · obtain ⟨s, rfl⟩ : ∃ s, q = s + 1 := ⟨q - 1, by omega⟩
      rw [show (((s + 1 : Nat) : Int) - 1) = (s : Int) by omega]
      refine J_skip ?_
      refine E_then ?_
      refine J_seq ?_
      refine J_block ?_
      refine J_seq ?_
      refine J_region ?_
      refine V_mov (.n _) rfl rfl ?_   -- 6.0
      refine V_mov (.n _) rfl rfl ?_   -- 6.1
      refine V_sub [(0, _), (1, _), (2, _), (3, _), (4, _), (5, _), (20, _), (23, _), (24, _)] ⟨rfl, rfl, rfl, rfl, rfl, rfl, rfl, rfl, rfl, trivial⟩ ?_
      refine V_nil (.inl rfl) ?_
      refine E_then ?_
      refine J_block ?_
      -- loop L1
      refine J_loop (X := Nat) (fun i => [(0, (.agg #[.slice A1 st.length c1, .slice A2 ch.length c2, .slice A3 be.length c3])), (1, (.pointer (some ⟨b1, 0, none⟩))), (2, (.slice none 0 0)), (3, (.int .i64 (st.length : Nat))), (4, (.slice (some ⟨b15, 0, none⟩) (st.length * 2 ^ st.length) (st.length * 2 ^ st.length))), (5, .int .i64 (s : Nat)), (23, (.int .i64 (st.length : Nat))), (24, .int .i64 (i : Nat))]) (fun i => [.c b15 3 (I (prG 0 st.length ch (natB be) (s + 1) i)), .c b1 48 [.slice A1 st.length c1, .slice A2 ch.length c2, .slice A3 be.length c3]]) (fun i => i ≤ st.length) (fun i => st.length - i) (0) (by refine ⟨?_, ?_, ?_, ?_, ?_, ?_, ?_, ?_, trivial⟩ <;> first | rfl | exact int_eq (by omega)) (fun w h => h) ?_ ?_
      · omega
      · intro i hi
        refine J_seq ?_
        refine J_region ?_
        refine V_lss (.n _) rfl rfl rfl ?_   -- 7.0
        refine V_sub [(0, _), (1, _), (2, _), (3, _), (4, _), (5, _), (23, _), (24, _), (25, _)] ⟨rfl, rfl, rfl, rfl, rfl, rfl, rfl, rfl, rfl, trivial⟩ ?_
        refine V_nil (.inl rfl) ?_
        refine E_then ?_
        refine J_seq ?_
        refine J_cond rfl (fun h2 => ?_) (fun h2 => ?_)   -- C1
        · skip
          refine J_skip ?_
          refine E_then ?_
          refine J_seq ?_
          refine J_block ?_
          refine J_seq ?_
          refine J_region ?_
          refine V_mov (.n _) rfl rfl ?_   -- 8.0
          refine V_asg (.n _) rfl rfl ?_   -- 8.1
          refine V_sub [(0, _), (1, _), (2, _), (3, _), (4, _), (5, _), (6, _), (23, _), (24, _), (25, _)] ⟨rfl, rfl, rfl, rfl, rfl, rfl, rfl, rfl, rfl, rfl, trivial⟩ ?_
          refine V_nil (.inl rfl) ?_
          refine E_then ?_
          refine J_seq ?_
          refine J_region ?_
          refine V_mov (.n _) rfl rfl ?_   -- 9.0
          refine V_mov (.n _) rfl rfl ?_   -- 9.1
          refine V_mov (.n _) rfl rfl ?_   -- 9.2
          have hix0 := ix_lt (n := st.length) (s := s) (i := i) (m := 2 ^ st.length) (by omega) (by omega)
          refine V_mul (.n _) rfl rfl (by rw [mulcast]; exact wrap_nat (by omega)) rfl ?_   -- 9.3
          rw [mulcast]
          refine V_mov (.n _) rfl rfl ?_   -- 9.4
          refine V_add (.n _) rfl rfl (wrap_ok (by omega)) rfl ?_   -- 9.5
          rw [show ((st.length * s : Nat) : Int) + (i : Int) = ((st.length * s + i : Nat) : Int) by omega]
          first | refine V_ix (.n _) Tryd.underlying34 Tryd.sizeOf3 rfl rfl (by omega) (by omega) rfl ?_ | refine V_ixz (.n _) Tryd.underlying34 Tryd.sizeOf3 rfl rfl (hp.h2.rd.pl (by rw [hp.h2.len]; omega)) (by omega) (by omega) rfl ?_ | refine V_ixz (.n _) Tryd.underlying34 Tryd.sizeOf3 rfl rfl (hrr.pl (by simp)) (by omega) (by omega) rfl ?_ | refine V_ixz (.n _) Tryd.underlying34 Tryd.sizeOf3 rfl rfl (hp.h1.pl (by simp)) (by omega) (by omega) rfl ?_   -- 9.6
          refine V_st (cs' := I ((prG 0 st.length ch (natB be) (s + 1) i).set (st.length * s + i) (-1))) (.n _) Tryd.sizeOf3 rfl rfl rfl (by repeat (first | exact SetAt.z | apply SetAt.s)) (by rw [toN, I_set]) (by simp; omega) ?_   -- 9.7
          refine V_sub [(0, _), (1, _), (2, _), (3, _), (4, _), (5, _), (6, _), (23, _), (24, _), (25, _)] ⟨rfl, rfl, rfl, rfl, rfl, rfl, rfl, rfl, rfl, rfl, trivial⟩ ?_
          refine V_nil (.inl rfl) ?_
          refine E_then ?_
          refine J_seq ?_
          refine J_seq ?_
          refine J_region ?_
          refine V_mov (.n _) rfl rfl ?_   -- 10.0
          refine V_mov (.n _) rfl rfl ?_   -- 10.1
          refine V_shr (.n _) rfl rfl (by omega) (by simp [IntKind.bits]; omega) rfl ?_   -- 10.2
          rw [shr_nat]
          refine V_and (r := if s.testBit i then 1 else 0) (.n _) rfl rfl (bit_of s i (by omega)) rfl ?_   -- 10.3
          refine V_eql (.n _) rfl rfl rfl ?_   -- 10.4
          rw [bit0]
          refine V_sub [(0, _), (1, _), (2, _), (3, _), (4, _), (5, _), (6, _), (23, _), (24, _), (25, _), (38, _)] ⟨rfl, rfl, rfl, rfl, rfl, rfl, rfl, rfl, rfl, rfl, rfl, trivial⟩ ?_
          refine V_nil (.inl rfl) ?_
          refine E_then ?_
          refine J_condB rfl (fun h3 => ?_) (fun h3 => ?_)   -- C2
          · have hbit : s.testBit i = false := by simpa using h3
            refine J_exit ?_
            refine E_then_exit ?_
            refine E_blk_hit ?_
            refine E_then ?_
            refine J_region ?_
            refine V_add (.n _) rfl rfl (wrap_ok (by omega)) rfl ?_   -- 21.0
            refine V_mov (.n _) rfl rfl ?_   -- 21.1
            refine V_sub [(0, _), (1, _), (2, _), (3, _), (4, _), (5, _), (6, _), (23, _), (24, _), (25, _), (38, _)] ⟨rfl, rfl, rfl, rfl, rfl, rfl, rfl, rfl, rfl, rfl, rfl, trivial⟩ ?_
            refine V_nil (.inl rfl) ?_
            -- again L1 0
            rw [show (prG 0 st.length ch (natB be) (s + 1) i).set (st.length * s + i) (-1) = prG 0 st.length ch (natB be) (s + 1) (i + 1) by rw [← prG_set (show i < st.length by omega), pay_eq (by omega), hbit]; rfl]
            refine E_again (i + 1) ?_ ?_ ?_ (fun w h => h)
            · omega
            · omega
            · refine ⟨?_, ?_, ?_, ?_, ?_, ?_, ?_, ?_, trivial⟩ <;> first | rfl | exact int_eq (by omega) | exact int_eq (by dsimp only; omega)
          · have hbit : s.testBit i = true := by simpa using h3
            refine J_skip ?_
            refine E_then ?_
            refine J_seq ?_
            refine J_region ?_
            refine V_asg (.n _) rfl rfl ?_   -- 11.0
            refine V_sub [(0, _), (1, _), (2, _), (3, _), (4, _), (5, _), (6, _), (7, _), (23, _), (24, _), (25, _), (38, _)] ⟨rfl, rfl, rfl, rfl, rfl, rfl, rfl, rfl, rfl, rfl, rfl, rfl, trivial⟩ ?_
            refine V_nil (.inl rfl) ?_
            refine E_then ?_
            refine J_seq ?_
            refine J_seq ?_
            refine J_region ?_
            refine V_mov (.n _) rfl rfl ?_   -- 12.0
            refine V_mov (.n _) rfl rfl ?_   -- 12.1
            refine V_shl (.n _) rfl rfl (by omega) (by simp [IntKind.bits]; omega) (by rw [shl_nat]; exact wrap_nat (by omega)) rfl ?_   -- 12.2
            rw [shl_nat]
            refine V_sub1 (.n _) rfl rfl (wrap_ok (by omega)) rfl ?_   -- 12.3
            refine V_eql (.n _) rfl rfl rfl ?_   -- 12.4
            refine V_sub [(0, _), (1, _), (2, _), (3, _), (4, _), (5, _), (6, _), (7, _), (23, _), (24, _), (25, _), (38, _), (43, _)] ⟨rfl, rfl, rfl, rfl, rfl, rfl, rfl, rfl, rfl, rfl, rfl, rfl, rfl, trivial⟩ ?_
            refine V_nil (.inl rfl) ?_
            refine E_then ?_
            -- join C3
            refine J_cut (X := Unit) (fun _ => [(0, (.agg #[.slice A1 st.length c1, .slice A2 ch.length c2, .slice A3 be.length c3])), (1, (.pointer (some ⟨b1, 0, none⟩))), (2, (.slice none 0 0)), (3, (.int .i64 (st.length : Nat))), (4, (.slice (some ⟨b15, 0, none⟩) (st.length * 2 ^ st.length) (st.length * 2 ^ st.length))), (5, .int .i64 (s : Nat)), (6, .int .i64 (i : Nat)), (7, .int .i64 (startV st.length s)), (23, (.int .i64 (st.length : Nat))), (24, .int .i64 (i : Nat))]) (fun _ => [.c b15 3 (I ((prG 0 st.length ch (natB be) (s + 1) i).set (st.length * s + i) (-1))), .c b1 48 [.slice A1 st.length c1, .slice A2 ch.length c2, .slice A3 be.length c3]]) (fun _ => True) ?_ ?_
            · skip
              refine J_cond rfl (fun h4 => ?_) (fun h4 => ?_)   -- C3
              · skip
                refine J_region ?_
                refine V_asg (.n _) rfl rfl ?_   -- 13.0
                refine V_sub [(0, _), (1, _), (2, _), (3, _), (4, _), (5, _), (6, _), (7, _), (23, _), (24, _), (25, _), (38, _), (43, _)] ⟨rfl, rfl, rfl, rfl, rfl, rfl, rfl, rfl, rfl, rfl, rfl, rfl, rfl, trivial⟩ ?_
                refine V_nil (.inl rfl) ?_
                -- again C3 0
                refine E_meet (()) ?_ ?_ (fun w h => h)
                · trivial
                · refine ⟨?_, ?_, ?_, ?_, ?_, ?_, ?_, ?_, ?_, ?_, trivial⟩ <;> first | rfl | exact int_eq (by rw [startV, if_pos (by omega)])
              · skip
                refine J_skip ?_
                -- again C3 1
                refine E_meet (()) ?_ ?_ (fun w h => h)
                · trivial
                · refine ⟨?_, ?_, ?_, ?_, ?_, ?_, ?_, ?_, ?_, ?_, trivial⟩ <;> first | rfl | exact int_eq (by rw [startV, if_neg (by omega)]; rfl)
            · rintro _ -
              refine E_then ?_
              refine J_seq ?_
              refine J_seq ?_
              refine J_region ?_
              refine V_mov (.n _) rfl rfl ?_   -- 14.0
              refine V_mov (.n _) rfl rfl ?_   -- 14.1
              refine V_sub [(0, _), (1, _), (2, _), (3, _), (4, _), (5, _), (6, _), (7, _), (23, _), (24, _), (44, _), (45, _)] ⟨rfl, rfl, rfl, rfl, rfl, rfl, rfl, rfl, rfl, rfl, rfl, rfl, trivial⟩ ?_
              refine V_nil (.inl rfl) ?_
              refine E_then ?_
              refine J_block ?_
              -- loop L2
              refine J_loop (X := Nat) (fun j => [(0, (.agg #[.slice A1 st.length c1, .slice A2 ch.length c2, .slice A3 be.length c3])), (1, (.pointer (some ⟨b1, 0, none⟩))), (2, (.slice none 0 0)), (3, (.int .i64 (st.length : Nat))), (4, (.slice (some ⟨b15, 0, none⟩) (st.length * 2 ^ st.length) (st.length * 2 ^ st.length))), (5, .int .i64 (s : Nat)), (6, .int .i64 (i : Nat)), (7, .int .i64 (bestJ (natB be) (fun j => cst ch i j + pay st.length ch (natB be) (s ||| 2 ^ j) j) s (startV st.length s) (List.range j))), (23, (.int .i64 (st.length : Nat))), (24, .int .i64 (i : Nat)), (44, (.int .i64 (st.length : Nat))), (45, .int .i64 (j : Nat))]) (fun j => [.c b15 3 (I ((prG 0 st.length ch (natB be) (s + 1) i).set (st.length * s + i) (-1))), .c b1 48 [.slice A1 st.length c1, .slice A2 ch.length c2, .slice A3 be.length c3]]) (fun j => j ≤ st.length) (fun j => st.length - j) (0) (by refine ⟨?_, ?_, ?_, ?_, ?_, ?_, ?_, ?_, ?_, ?_, ?_, ?_, trivial⟩ <;> first | rfl | exact int_eq (by omega)) (fun w h => h) ?_ ?_
              · omega
              · intro j hj
                have hbl := (bestJ_le (be := natB be) (f := (fun j => cst ch i j + pay st.length ch (natB be) (s ||| 2 ^ j) j)) (s := s) (List.range j) (startV st.length s)).1
                have hm0 := startV_bd st.length s
                refine J_seq ?_
                refine J_region ?_
                refine V_lss (.n _) rfl rfl rfl ?_   -- 15.0
                refine V_sub [(0, _), (1, _), (2, _), (3, _), (4, _), (5, _), (6, _), (7, _), (23, _), (24, _), (44, _), (45, _), (46, _)] ⟨rfl, rfl, rfl, rfl, rfl, rfl, rfl, rfl, rfl, rfl, rfl, rfl, rfl, trivial⟩ ?_
                refine V_nil (.inl rfl) ?_
                refine E_then ?_
                refine J_seq ?_
                refine J_cond rfl (fun h5 => ?_) (fun h5 => ?_)   -- C4
                · skip
                  refine J_skip ?_
                  refine E_then ?_
                  refine J_seq ?_
                  refine J_block ?_
                  refine J_seq ?_
                  refine J_region ?_
                  refine V_mov (.n _) rfl rfl ?_   -- 16.0
                  refine V_asg (.n _) rfl rfl ?_   -- 16.1
                  refine V_sub [(0, _), (1, _), (2, _), (3, _), (4, _), (5, _), (6, _), (7, _), (8, _), (23, _), (24, _), (44, _), (45, _), (46, _)] ⟨rfl, rfl, rfl, rfl, rfl, rfl, rfl, rfl, rfl, rfl, rfl, rfl, rfl, rfl, trivial⟩ ?_
                  refine V_nil (.inl rfl) ?_
                  refine E_then ?_
                  refine J_seq ?_
                  refine J_region ?_
                  refine V_ldN (.n _) Tryd.isAgg48 Tryd.sizeOf48 rfl (by repeat (first | exact List.Mem.head _ | assumption | apply List.Mem.tail)) (by rfl) rfl rfl ?_   -- 17.0
                  refine V_mov (.n _) rfl rfl ?_   -- 17.1
                  refine V_mov (.n _) rfl rfl ?_   -- 17.2
                  refine V_call0 (.n _) Tryd.call83 (.cons rfl (.cons rfl (.cons rfl .nil))) (fun w1 hw1 => rfollows_spec w1 A1 A2 A3 c1 c2 c3 vs st ch be hl1 hl2 hl3 (hp.keep hw1) s j hv (by omega) (by omega)) rfl trivial ?_   -- 17.3
                  refine V_sub [(0, _), (1, _), (2, _), (3, _), (4, _), (5, _), (6, _), (7, _), (8, _), (23, _), (24, _), (44, _), (45, _), (46, _), (51, _)] ⟨rfl, rfl, rfl, rfl, rfl, rfl, rfl, rfl, rfl, rfl, rfl, rfl, rfl, rfl, rfl, trivial⟩ ?_
                  refine V_nil (.inl rfl) ?_
                  refine E_then ?_
                  refine J_condB rfl (fun h6 => ?_) (fun h6 => ?_)   -- C5
                  · skip
                    refine J_draw (Gs := _) (cl := [.p, .p, .r, .p, .p, .r, .p, .p, .r, .p, .p, .p, .p, .p, .p, .p, .p, .p, .p, .r, .p, .p, .p]) (by kernel_rfl) (fun _ _ h => h) ?_
                    refine V_mov (.s _ _ _) rfl rfl ?_   -- 18.0
                    first | refine V_fa0 (.s _ _ _) fo48_1 rfl rfl ?_ | refine V_faz (.s _ _ _) fo48_1 rfl rfl ?_ | refine V_fa (.s _ _ _) fo48_1 rfl rfl ?_   -- 18.1
                    refine V_ld (.s _ _ _) Tryd.isAgg45 rfl (by repeat (first | exact List.Mem.head _ | assumption | apply List.Mem.tail)) (by rfl) rfl ?_   -- 18.2
                    refine V_mov (.s _ _ _) rfl rfl ?_   -- 18.3
                    first | refine V_ix (.s _ _ _) Tryd.underlying45 Tryd.sizeOf34 rfl rfl (by omega) (by omega) rfl ?_ | refine V_ixz (.s _ _ _) Tryd.underlying45 Tryd.sizeOf34 rfl rfl (hp.h2.rd.pl (by rw [hp.h2.len]; omega)) (by omega) (by omega) rfl ?_ | refine V_ixz (.s _ _ _) Tryd.underlying45 Tryd.sizeOf34 rfl rfl (hrr.pl (by simp)) (by omega) (by omega) rfl ?_ | refine V_ixz (.s _ _ _) Tryd.underlying45 Tryd.sizeOf34 rfl rfl (hp.h1.pl (by simp)) (by omega) (by omega) rfl ?_   -- 18.4
                    obtain ⟨Ai, ci, hrow, hrr⟩ := hp.h2.get (i := i) (by omega)
                    have hrl := (hv.row (i := i) (by omega)).1
                    refine V_ldz (.s _ _ _) Tryd.isAgg34 rfl hp.h2.rd hrow rfl ?_   -- 18.5
                    refine V_mov (.s _ _ _) rfl rfl ?_   -- 18.6
                    first | refine V_ix (.s _ _ _) Tryd.underlying34 Tryd.sizeOf3 rfl rfl (by omega) (by omega) rfl ?_ | refine V_ixz (.s _ _ _) Tryd.underlying34 Tryd.sizeOf3 rfl rfl (hp.h2.rd.pl (by rw [hp.h2.len]; omega)) (by omega) (by omega) rfl ?_ | refine V_ixz (.s _ _ _) Tryd.underlying34 Tryd.sizeOf3 rfl rfl (hrr.pl (by simp)) (by omega) (by omega) rfl ?_ | refine V_ixz (.s _ _ _) Tryd.underlying34 Tryd.sizeOf3 rfl rfl (hp.h1.pl (by simp)) (by omega) (by omega) rfl ?_   -- 18.7
                    refine V_ldz (.s _ _ _) Tryd.isAgg3 rfl hrr (I_getN (i := j) (by omega)) rfl ?_   -- 18.8
                    rw [show (ch.getD i []).getD j 0 = cst ch i j from rfl]
                    have hcb := hv.ok.change i j (by omega) (by omega)
                    refine V_mov (.s _ _ _) rfl rfl ?_   -- 18.9
                    refine V_mov (.s _ _ _) rfl rfl ?_   -- 18.10
                    refine V_mov (.s _ _ _) rfl rfl ?_   -- 18.11
                    refine V_mov (.s _ _ _) rfl rfl ?_   -- 18.12
                    have hsj := or_lt (show s < 2 ^ st.length by omega) (show j < st.length by omega)
                    have hsg := or_gt (fol_not (by assumption : fol (natB be) s j = true))
                    have hix := ix_lt (n := st.length) (s := s ||| 2 ^ j) (i := j) (m := 2 ^ st.length) (by omega) hsj
                    have hpb := pay_bd (be := natB be) hv.ok.change (2 ^ st.length - (s ||| 2 ^ j)) (s ||| 2 ^ j) j (by omega) (by omega) (by omega)
                    refine V_shl (.s _ _ _) rfl rfl (by omega) (by simp [IntKind.bits]; omega) (by rw [shl_nat]; exact wrap_nat (lt63 (Nat.pow_lt_pow_right (by decide) (show j < 10 by omega)) (Nat.le_refl _))) rfl ?_   -- 18.13
                    rw [shl_nat]
                    refine V_or (r := ((s ||| 2 ^ j : Nat) : Int)) (.s _ _ _) rfl rfl (bits_or (by omega) (lt63 (Nat.pow_lt_pow_right (by decide) (show j < 10 by omega)) (Nat.le_refl _))) rfl ?_   -- 18.14
                    refine V_mul (.s _ _ _) rfl rfl (by rw [mulcast]; exact wrap_nat (by omega)) rfl ?_   -- 18.15
                    rw [mulcast]
                    refine V_mov (.s _ _ _) rfl rfl ?_   -- 18.16
                    refine V_add (.s _ _ _) rfl rfl (wrap_ok (by omega)) rfl ?_   -- 18.17
                    rw [show ((st.length * (s ||| 2 ^ j) : Nat) : Int) + (j : Int) = ((st.length * (s ||| 2 ^ j) + j : Nat) : Int) by omega]
                    first | refine V_ix (.s _ _ _) Tryd.underlying34 Tryd.sizeOf3 rfl rfl (by omega) (by omega) rfl ?_ | refine V_ixz (.s _ _ _) Tryd.underlying34 Tryd.sizeOf3 rfl rfl (hp.h2.rd.pl (by rw [hp.h2.len]; omega)) (by omega) (by omega) rfl ?_ | refine V_ixz (.s _ _ _) Tryd.underlying34 Tryd.sizeOf3 rfl rfl (hrr.pl (by simp)) (by omega) (by omega) rfl ?_ | refine V_ixz (.s _ _ _) Tryd.underlying34 Tryd.sizeOf3 rfl rfl (hp.h1.pl (by simp)) (by omega) (by omega) rfl ?_   -- 18.18
                    refine V_ld (.s _ _ _) Tryd.isAgg3 rfl (by repeat (first | exact List.Mem.head _ | assumption | apply List.Mem.tail)) (I_getN (xs := (prG 0 st.length ch (natB be) (s + 1) i).set (st.length * s + i) (-1)) (i := st.length * (s ||| 2 ^ j) + j) (by simp; omega)) rfl ?_   -- 18.19
                    rw [getD_set, if_neg (by have := ix_inj (n := st.length) (s := s ||| 2 ^ j) (i := j) (s2 := s) (j := i) (by omega) (by omega); omega), prG_get (by omega) hsj (by omega)]
                    refine V_add (.s _ _ _) rfl rfl (wrap_ok (by omega)) rfl ?_   -- 18.20
                    refine V_min (.s _ _ _) rfl rfl rfl ?_   -- 18.21
                    refine V_asg (.s _ _ _) rfl rfl ?_   -- 18.22
                    refine V_sub [(0, _), (1, _), (2, _), (3, _), (4, _), (5, _), (6, _), (7, _), (8, _), (23, _), (24, _), (44, _), (45, _), (46, _), (51, _)] ⟨rfl, rfl, rfl, rfl, rfl, rfl, rfl, rfl, rfl, rfl, rfl, rfl, rfl, rfl, rfl, trivial⟩ ?_
                    refine V_nil (.inr ⟨_, rfl⟩) ?_
                    refine E_blk ?_
                    refine E_then ?_
                    refine J_region ?_
                    refine V_add (.n _) rfl rfl (wrap_ok (by omega)) rfl ?_   -- 19.0
                    refine V_mov (.n _) rfl rfl ?_   -- 19.1
                    refine V_sub [(0, _), (1, _), (2, _), (3, _), (4, _), (5, _), (6, _), (7, _), (8, _), (23, _), (24, _), (44, _), (45, _), (46, _), (51, _)] ⟨rfl, rfl, rfl, rfl, rfl, rfl, rfl, rfl, rfl, rfl, rfl, rfl, rfl, rfl, rfl, trivial⟩ ?_
                    refine V_nil (.inl rfl) ?_
                    -- again L2 0
                    have hnx := bestJ_yes (f := (fun j => cst ch i j + pay st.length ch (natB be) (s ||| 2 ^ j) j)) (m := (startV st.length s)) (by assumption : fol (natB be) s j = true)
                    refine E_again (j + 1) ?_ ?_ ?_ (fun w h => h)
                    · omega
                    · omega
                    · refine ⟨?_, ?_, ?_, ?_, ?_, ?_, ?_, ?_, ?_, ?_, ?_, ?_, trivial⟩ <;> first | rfl | exact int_eq hnx.symm | exact int_eq (by omega)
                  · skip
                    refine J_skip ?_
                    refine E_blk ?_
                    refine E_then ?_
                    refine J_region ?_
                    refine V_add (.n _) rfl rfl (wrap_ok (by omega)) rfl ?_   -- 19.0
                    refine V_mov (.n _) rfl rfl ?_   -- 19.1
                    refine V_sub [(0, _), (1, _), (2, _), (3, _), (4, _), (5, _), (6, _), (7, _), (8, _), (23, _), (24, _), (44, _), (45, _), (46, _), (51, _)] ⟨rfl, rfl, rfl, rfl, rfl, rfl, rfl, rfl, rfl, rfl, rfl, rfl, rfl, rfl, rfl, trivial⟩ ?_
                    refine V_nil (.inl rfl) ?_
                    -- again L2 1
                    have hnx := bestJ_no (f := (fun j => cst ch i j + pay st.length ch (natB be) (s ||| 2 ^ j) j)) (m := (startV st.length s)) (by assumption : fol (natB be) s j = false)
                    refine E_again (j + 1) ?_ ?_ ?_ (fun w h => h)
                    · omega
                    · omega
                    · refine ⟨?_, ?_, ?_, ?_, ?_, ?_, ?_, ?_, ?_, ?_, ?_, ?_, trivial⟩ <;> first | rfl | exact int_eq hnx.symm | exact int_eq (by omega)
                · obtain rfl : j = st.length := by omega
                  have hpay := pay_eq2 (n := st.length) (ch := ch) (be := natB be) (s := s) (i := i) (by omega) hbit
                  refine J_exit ?_
                  refine E_then_exit ?_
                  refine E_lp_exit ?_
                  refine E_blk_hit ?_
                  refine E_then ?_
                  refine J_region ?_
                  refine V_mov (.n _) rfl rfl ?_   -- 20.0
                  refine V_mov (.n _) rfl rfl ?_   -- 20.1
                  refine V_mov (.n _) rfl rfl ?_   -- 20.2
                  have hix0 := ix_lt (n := st.length) (s := s) (i := i) (m := 2 ^ st.length) (by omega) (by omega)
                  refine V_mul (.n _) rfl rfl (by rw [mulcast]; exact wrap_nat (by omega)) rfl ?_   -- 20.3
                  rw [mulcast]
                  refine V_mov (.n _) rfl rfl ?_   -- 20.4
                  refine V_add (.n _) rfl rfl (wrap_ok (by omega)) rfl ?_   -- 20.5
                  rw [show ((st.length * s : Nat) : Int) + (i : Int) = ((st.length * s + i : Nat) : Int) by omega]
                  refine V_mov (.n _) rfl rfl ?_   -- 20.6
                  first | refine V_ix (.n _) Tryd.underlying34 Tryd.sizeOf3 rfl rfl (by omega) (by omega) rfl ?_ | refine V_ixz (.n _) Tryd.underlying34 Tryd.sizeOf3 rfl rfl (hp.h2.rd.pl (by rw [hp.h2.len]; omega)) (by omega) (by omega) rfl ?_ | refine V_ixz (.n _) Tryd.underlying34 Tryd.sizeOf3 rfl rfl (hrr.pl (by simp)) (by omega) (by omega) rfl ?_ | refine V_ixz (.n _) Tryd.underlying34 Tryd.sizeOf3 rfl rfl (hp.h1.pl (by simp)) (by omega) (by omega) rfl ?_   -- 20.7
                  refine V_st (cs' := I (prG 0 st.length ch (natB be) (s + 1) (i + 1))) (.n _) Tryd.sizeOf3 rfl rfl rfl (by repeat (first | exact SetAt.z | apply SetAt.s)) (by rw [toN, I_set, List.set_set, hpay, prG_set (by omega)]) (by simp; omega) ?_   -- 20.8
                  refine V_sub [(0, _), (1, _), (2, _), (3, _), (4, _), (5, _), (6, _), (7, _), (23, _), (24, _), (44, _), (45, _), (46, _)] ⟨rfl, rfl, rfl, rfl, rfl, rfl, rfl, rfl, rfl, rfl, rfl, rfl, rfl, trivial⟩ ?_
                  refine V_nil (.inl rfl) ?_
                  refine E_blk ?_
                  refine E_then ?_
                  refine J_region ?_
                  refine V_add (.n _) rfl rfl (wrap_ok (by omega)) rfl ?_   -- 21.0
                  refine V_mov (.n _) rfl rfl ?_   -- 21.1
                  refine V_sub [(0, _), (1, _), (2, _), (3, _), (4, _), (5, _), (6, _), (7, _), (23, _), (24, _), (44, _), (45, _), (46, _)] ⟨rfl, rfl, rfl, rfl, rfl, rfl, rfl, rfl, rfl, rfl, rfl, rfl, rfl, trivial⟩ ?_
                  refine V_nil (.inl rfl) ?_
                  -- again L1 1
                  refine E_again (i + 1) ?_ ?_ ?_ (fun w h => h)
                  · omega
                  · omega
                  · refine ⟨?_, ?_, ?_, ?_, ?_, ?_, ?_, ?_, trivial⟩ <;> first | rfl | exact int_eq (by omega) | exact int_eq (by dsimp only; omega)
        · skip
          refine J_exit ?_
          refine E_then_exit ?_
          refine E_lp_exit ?_
          refine E_blk_hit ?_
          refine E_blk ?_
          refine E_then ?_
          refine J_region ?_
          refine V_mov (.n _) rfl rfl ?_   -- 5.0
          refine V_sub1 (.n _) rfl rfl (wrap_ok (by omega)) rfl ?_   -- 5.1
          refine V_asg (.n _) rfl rfl ?_   -- 5.2
          refine V_sub [(0, _), (1, _), (2, _), (3, _), (4, _), (5, _), (23, _), (24, _), (25, _)] ⟨rfl, rfl, rfl, rfl, rfl, rfl, rfl, rfl, rfl, trivial⟩ ?_
          refine V_nil (.inl rfl) ?_
          -- again L0 0
          obtain rfl : i = st.length := by omega
          rw [prG_row]
          refine E_again (s) ?_ ?_ ?_ (fun w h => h)
          · omega
          · omega
          · refine ⟨?_, ?_, ?_, ?_, ?_, ?_, trivial⟩ <;> first | rfl | exact int_eq (by omega) | exact int_eq (by dsimp only; omega)
    · skip
      refine J_exit ?_
      refine E_then_exit ?_
      refine E_lp_exit ?_
      refine E_blk_hit ?_
      refine E_then ?_
      refine J_seq ?_
      refine J_region ?_
      refine V_mov (.n _) rfl rfl ?_   -- 22.0
      refine V_asg (.n _) rfl rfl ?_   -- 22.1
      refine V_sub [(0, _), (1, _), (2, _), (3, _), (4, _), (5, _), (20, _)] ⟨rfl, rfl, rfl, rfl, rfl, rfl, rfl, trivial⟩ ?_
      refine V_nil (.inl rfl) ?_
      refine E_then ?_
      refine J_ret ?_
      -- return R0
      refine E_ret1 Tryd.results82 rfl (fun w hw => ?_)
      obtain rfl : q = 0 := by omega
      rw [prG_end0] at hw
      exact ⟨_, [.c b15 3 (I (priceT st.length ch (natB be)))], rfl, hw.sublist (by simp), b15, rfl, rfl⟩

theorem Cost_no (w : World) (A1 A2 A3 : Option Addr) (c1 c2 c3 : Nat) (vs : List Value) (st : List Int) (ch : Rows2) (be : List (Int × Int)) (hl1 : st.length ≤ 140737488351232) (hl2 : ch.length ≤ 140737488351232) (hl3 : be.length ≤ 140737488351232) (hp : PR w A1 A2 A3 vs st ch be) (hlr : ∀ r ∈ ch, r.length ≤ 140737488351232) (hv : validP st ch be = false) (AO : Option Addr) (cO : Nat) (os : List Int) (hlo : os.length ≤ 140737488351232) (ho : Rd w AO (I os))  : Calls Tryd.prog 35 #[.agg #[.slice A1 st.length c1, .slice A2 ch.length c2, .slice A3 be.length c3], .slice AO os.length cO] w fun e w' => e = .returned (.tuple #[.int .i64 (costR st ch be os).1, .int .i64 (costR st ch be os).2]) ∧ St w [] w' := by
  refine calls (args := [.agg #[.slice A1 st.length c1, .slice A2 ch.length c2, .slice A3 be.length c3], .slice AO os.length cO]) Tryd.func35 rfl Tryd.ntmps35 (Nat.le_of_ble_eq_true rfl) (St.refl w) ?_
  refine J_seq ?_
  refine J_region ?_
  refine V_box (.n _) rfl rfl rfl (fun _ => trivial) (fun b2 => ?_)   -- 0.0
  refine V_asg (.n _) rfl rfl ?_   -- 0.1
  refine V_asg (.n _) rfl rfl ?_   -- 0.2
  refine V_sub [(0, _), (1, _), (2, _), (4, _), (5, _)] ⟨rfl, rfl, rfl, rfl, rfl, trivial⟩ ?_
  refine V_nil (.inl rfl) ?_
  refine E_then ?_
  refine J_seq ?_
  refine J_seq ?_
  refine J_region ?_
  refine V_ldN (.n _) Tryd.isAgg51 Tryd.sizeOf51 rfl (by repeat (first | exact List.Mem.head _ | assumption | apply List.Mem.tail)) (by rfl) rfl rfl ?_   -- 1.0
  refine V_call0 (.n _) Tryd.call73 (.cons rfl .nil) (fun w1 hw1 => validP_spec w1 A1 A2 A3 c1 c2 c3 vs st ch be hl1 hl2 hl3 (hp.keep hw1) hlr) rfl trivial ?_   -- 1.1
  refine V_notB (.n _) rfl rfl ?_   -- 1.2
  refine V_sub [(0, _), (1, _), (2, _), (4, _), (5, _), (13, _)] ⟨rfl, rfl, rfl, rfl, rfl, rfl, trivial⟩ ?_
  refine V_nil (.inl rfl) ?_
  refine E_then ?_
  refine J_condB rfl (fun h1 => ?_) (fun h1 => ?_)   -- C0
  · skip
    refine J_seq ?_
    refine J_region ?_
    refine V_asg (.n _) rfl rfl ?_   -- 2.0
    refine V_asg (.n _) rfl rfl ?_   -- 2.1
    refine V_sub [(0, _), (1, _), (2, _), (4, _), (5, _), (13, _)] ⟨rfl, rfl, rfl, rfl, rfl, rfl, trivial⟩ ?_
    refine V_nil (.inl rfl) ?_
    refine E_then ?_
    refine J_ret ?_
    refine E_then_ret ?_
    -- return R0
    refine E_ret2 Tryd.results35 rfl rfl (fun w hw => ?_)
    exact ⟨by rw [costR, if_pos hv], hw.sub (fun x hx => by simp at hx) (by simp [keys])⟩
  · simp [hv] at h1

theorem Cost_yes (w : World) (A1 A2 A3 : Option Addr) (c1 c2 c3 : Nat) (vs : List Value) (st : List Int) (ch : Rows2) (be : List (Int × Int)) (hl1 : st.length ≤ 140737488351232) (hl2 : ch.length ≤ 140737488351232) (hl3 : be.length ≤ 140737488351232) (hp : PR w A1 A2 A3 vs st ch be) (hlr : ∀ r ∈ ch, r.length ≤ 140737488351232) (hv : VP st ch be) (AO : Option Addr) (cO : Nat) (os : List Int) (hlo : os.length ≤ 140737488351232) (ho : Rd w AO (I os))  : Calls Tryd.prog 35 #[.agg #[.slice A1 st.length c1, .slice A2 ch.length c2, .slice A3 be.length c3], .slice AO os.length cO] w fun e w' => e = .returned (.tuple #[.int .i64 (costR st ch be os).1, .int .i64 (costR st ch be os).2]) ∧ St w [] w' := by
  have hn10 := hv.n10
  have hn01 := hv.n1
  have hp1 := pow1024 hn10
  have hN := n2n hn10
  have hp0 := Nat.pow_pos (n := st.length) (show 0 < 2 by decide)
  have hchl := hv.chl
  have hfar : far2 = 1099511627776 := rfl
  refine calls (args := [.agg #[.slice A1 st.length c1, .slice A2 ch.length c2, .slice A3 be.length c3], .slice AO os.length cO]) Tryd.func35 rfl Tryd.ntmps35 (Nat.le_of_ble_eq_true rfl) (St.refl w) ?_
  refine J_seq ?_
  refine J_region ?_
  refine V_box (.n _) rfl rfl rfl (fun _ => trivial) (fun b2 => ?_)   -- 0.0
  refine V_asg (.n _) rfl rfl ?_   -- 0.1
  refine V_asg (.n _) rfl rfl ?_   -- 0.2
  refine V_sub [(0, _), (1, _), (2, _), (4, _), (5, _)] ⟨rfl, rfl, rfl, rfl, rfl, trivial⟩ ?_
  refine V_nil (.inl rfl) ?_
  refine E_then ?_
  refine J_seq ?_
  refine J_seq ?_
  refine J_region ?_
  refine V_ldN (.n _) Tryd.isAgg51 Tryd.sizeOf51 rfl (by repeat (first | exact List.Mem.head _ | assumption | apply List.Mem.tail)) (by rfl) rfl rfl ?_   -- 1.0
  refine V_call0 (.n _) Tryd.call73 (.cons rfl .nil) (fun w1 hw1 => validP_spec w1 A1 A2 A3 c1 c2 c3 vs st ch be hl1 hl2 hl3 (hp.keep hw1) hlr) rfl trivial ?_   -- 1.1
  refine V_notB (.n _) rfl rfl ?_   -- 1.2
  refine V_sub [(0, _), (1, _), (2, _), (4, _), (5, _), (13, _)] ⟨rfl, rfl, rfl, rfl, rfl, rfl, trivial⟩ ?_
  refine V_nil (.inl rfl) ?_
  refine E_then ?_
  refine J_condB rfl (fun h1 => ?_) (fun h1 => ?_)   -- C0
  · simp [validP_iff.2 hv] at h1
  · skip
    refine J_skip ?_
    refine E_then ?_
    refine J_seq ?_
    refine J_seq ?_
    refine J_region ?_
    refine V_mov (.n _) rfl rfl ?_   -- 3.0
    refine V_len (.n _) Tryd.underlying34 rfl rfl ?_   -- 3.1
    first | refine V_fa0 (.n _) fo51_0 rfl rfl ?_ | refine V_faz (.n _) fo51_0 rfl rfl ?_ | refine V_fa (.n _) fo51_0 rfl rfl ?_   -- 3.2
    refine V_ld (.n _) Tryd.isAgg34 rfl (by repeat (first | exact List.Mem.head _ | assumption | apply List.Mem.tail)) (by rfl) rfl ?_   -- 3.3
    refine V_len (.n _) Tryd.underlying34 rfl rfl ?_   -- 3.4
    refine V_neq (.n _) rfl rfl rfl ?_   -- 3.5
    refine V_sub [(0, _), (1, _), (2, _), (4, _), (5, _), (13, _), (19, _)] ⟨rfl, rfl, rfl, rfl, rfl, rfl, rfl, trivial⟩ ?_
    refine V_nil (.inl rfl) ?_
    refine E_then ?_
    refine J_cond rfl (fun h2 => ?_) (fun h2 => ?_)   -- C1
    · skip
      refine J_seq ?_
      refine J_region ?_
      refine V_asg (.n _) rfl rfl ?_   -- 4.0
      refine V_asg (.n _) rfl rfl ?_   -- 4.1
      refine V_sub [(0, _), (1, _), (2, _), (4, _), (5, _), (13, _), (19, _)] ⟨rfl, rfl, rfl, rfl, rfl, rfl, rfl, trivial⟩ ?_
      refine V_nil (.inl rfl) ?_
      refine E_then ?_
      refine J_ret ?_
      refine E_then_ret ?_
      -- return R0
      refine E_ret2 Tryd.results35 rfl rfl (fun w hw => ?_)
      exact ⟨by rw [costR, if_neg (by rw [validP_iff.2 hv]; simp), if_neg (by rw [ordB_len (by omega)]; simp)], hw.sub (fun x hx => by simp at hx) (by simp [keys])⟩
    · have hol : os.length = st.length := by omega
      refine J_skip ?_
      refine E_then ?_
      refine J_seq ?_
      refine J_region ?_
      refine V_ldN (.n _) Tryd.isAgg51 Tryd.sizeOf51 rfl (by repeat (first | exact List.Mem.head _ | assumption | apply List.Mem.tail)) (by rfl) rfl rfl ?_   -- 5.0
      refine V_call (post := fun v D => ∃ b, v = .slice (some ⟨b, 0, none⟩) st.length st.length ∧ D = [.c b 3 (I (needT st.length (natB be)))]) (.n _) Tryd.call75 (.cons rfl .nil) (fun w1 hw1 => needs_spec w1 A1 A2 A3 c1 c2 c3 vs st ch be hl1 hl2 hl3 (hp.keep hw1) hv) rfl trivial ?_
      rintro v D ⟨bN, rfl, rfl⟩
      refine V_asg (.n _) rfl rfl ?_   -- 5.2
      refine V_sub [(0, _), (1, _), (2, _), (4, _), (5, _), (6, _), (13, _), (19, _)] ⟨rfl, rfl, rfl, rfl, rfl, rfl, rfl, rfl, trivial⟩ ?_
      refine V_nil (.inl rfl) ?_
      refine E_then ?_
      refine J_seq ?_
      refine J_region ?_
      refine V_asg (.n _) rfl rfl ?_   -- 6.0
      refine V_asg (.n _) rfl rfl ?_   -- 6.1
      refine V_sub [(0, _), (1, _), (2, _), (4, _), (5, _), (6, _), (7, _), (8, _), (13, _), (19, _)] ⟨rfl, rfl, rfl, rfl, rfl, rfl, rfl, rfl, rfl, rfl, trivial⟩ ?_
      refine V_nil (.inl rfl) ?_
      refine E_then ?_
      refine J_seq ?_
      refine J_seq ?_
      refine J_region ?_
      refine V_mov (.n _) rfl rfl ?_   -- 7.0
      refine V_len (.n _) Tryd.underlying34 rfl rfl ?_   -- 7.1
      refine V_mov (.n _) rfl rfl ?_   -- 7.2
      refine V_sub [(0, _), (1, _), (2, _), (4, _), (5, _), (6, _), (7, _), (8, _), (13, _), (19, _), (22, _), (23, _), (24, _)] ⟨rfl, rfl, rfl, rfl, rfl, rfl, rfl, rfl, rfl, rfl, rfl, rfl, rfl, trivial⟩ ?_
      refine V_nil (.inl rfl) ?_
      refine E_then ?_
      refine J_block ?_
      -- loop L0
      refine J_loop (X := Nat) (fun k => [(0, (.agg #[.slice A1 st.length c1, .slice A2 ch.length c2, .slice A3 be.length c3])), (1, (.slice AO os.length cO)), (2, (.pointer (some ⟨b2, 0, none⟩))), (6, (.slice (some ⟨bN, 0, none⟩) st.length st.length)), (7, .int .i64 ((endO 0 ((ns os).take k) : Nat) : Int)), (8, .int .i64 (sumO st ch none ((ns os).take k))), (22, (.slice AO os.length cO)), (23, (.int .i64 ((os.length : Nat) : Int))), (24, .int .i64 (k : Nat))]) (fun k => [.c bN 3 (I (needT st.length (natB be))), .c b2 51 [.slice A1 st.length c1, .slice A2 ch.length c2, .slice A3 be.length c3]]) (fun k => k ≤ os.length ∧ okO st.length (natB be) 0 ((ns os).take k) = true ∧ ∀ i, i < k → 0 ≤ os.getD i 0 ∧ os.getD i 0 < st.length) (fun k => os.length - k) (0) (by refine ⟨?_, ?_, ?_, ?_, ?_, ?_, ?_, ?_, ?_, trivial⟩ <;> first | rfl | exact int_eq (by omega)) (fun w h => h) ?_ ?_
      · exact ⟨Nat.zero_le _, rfl, fun i hi => by omega⟩
      · rintro k ⟨hk, hok, hrg⟩
        refine J_seq ?_
        refine J_region ?_
        refine V_lss (.n _) rfl rfl rfl ?_   -- 8.0
        refine V_sub [(0, _), (1, _), (2, _), (6, _), (7, _), (8, _), (22, _), (23, _), (24, _), (25, _)] ⟨rfl, rfl, rfl, rfl, rfl, rfl, rfl, rfl, rfl, rfl, trivial⟩ ?_
        refine V_nil (.inl rfl) ?_
        refine E_then ?_
        refine J_seq ?_
        refine J_cond rfl (fun h3 => ?_) (fun h3 => ?_)   -- C2
        · skip
          refine J_skip ?_
          refine E_then ?_
          refine J_seq ?_
          refine J_block ?_
          refine J_seq ?_
          refine J_region ?_
          refine V_mov (.n _) rfl rfl ?_   -- 9.0
          first | refine V_ix (.n _) Tryd.underlying34 Tryd.sizeOf3 rfl rfl (by omega) (by omega) rfl ?_ | refine V_ixz (.n _) Tryd.underlying34 Tryd.sizeOf3 rfl rfl (hp.h2.rd.pl (by rw [hp.h2.len]; omega)) (by omega) (by omega) rfl ?_ | refine V_ixz (.n _) Tryd.underlying34 Tryd.sizeOf3 rfl rfl (hrr.pl (by simp)) (by omega) (by omega) rfl ?_ | refine V_ixz (.n _) Tryd.underlying34 Tryd.sizeOf3 rfl rfl (hp.h1.pl (by simp)) (by omega) (by omega) rfl ?_ | refine V_ixz (.n _) Tryd.underlying34 Tryd.sizeOf3 rfl rfl (ho.pl (by simp)) (by omega) (by omega) rfl ?_   -- 9.1
          refine V_ldz (.n _) Tryd.isAgg3 rfl ho (I_getN (i := k) (by omega)) rfl ?_   -- 9.2
          refine V_asg (.n _) rfl rfl ?_   -- 9.3
          refine V_asg (.n _) rfl rfl ?_   -- 9.4
          refine V_sub [(0, _), (1, _), (2, _), (6, _), (7, _), (8, _), (9, _), (10, _), (22, _), (23, _), (24, _), (25, _)] ⟨rfl, rfl, rfl, rfl, rfl, rfl, rfl, rfl, rfl, rfl, rfl, rfl, trivial⟩ ?_
          refine V_nil (.inl rfl) ?_
          refine E_then ?_
          refine J_seq ?_
          refine J_seq ?_
          refine J_region ?_
          refine V_mov (.n _) rfl rfl ?_   -- 10.0
          refine V_lss (.n _) rfl rfl rfl ?_   -- 10.1
          refine V_mov (.n _) rfl rfl ?_   -- 10.2
          refine V_split 31 rfl (fun h4 => ?_) (fun h4 => ?_)   -- guard 10.2
          · skip
            refine V_pass (.n .p) (2, false) rfl rfl ?_   -- 10.3
            refine V_pass (.n .p) (2, false) rfl rfl ?_   -- 10.4
            refine V_pass (.n .p) (2, false) rfl rfl ?_   -- 10.5
            refine V_pass (.n .p) (2, false) rfl rfl ?_   -- 10.6
            refine V_pickT (.n _) rfl rfl rfl ?_   -- 10.7
            refine V_mov (.n _) rfl rfl ?_   -- 10.8
            refine V_pass (.n .p) (8, false) rfl rfl ?_   -- 10.9
            refine V_pass (.n .p) (8, false) rfl rfl ?_   -- 10.10
            refine V_pass (.n .p) (8, false) rfl rfl ?_   -- 10.11
            refine V_pass (.n .p) (8, false) rfl rfl ?_   -- 10.12
            refine V_pass (.n .p) (8, false) rfl rfl ?_   -- 10.13
            refine V_pickT (.n _) rfl rfl rfl ?_   -- 10.14
            refine V_sub [(0, _), (1, _), (2, _), (6, _), (7, _), (8, _), (9, _), (10, _), (22, _), (23, _), (24, _), (25, _), (43, _)] ⟨rfl, rfl, rfl, rfl, rfl, rfl, rfl, rfl, rfl, rfl, rfl, rfl, rfl, trivial⟩ ?_
            refine V_nil (.inl rfl) ?_
            refine E_then ?_
            refine J_condT rfl ?_
            refine J_seq ?_
            refine J_region ?_
            refine V_asg (.n _) rfl rfl ?_   -- 11.0
            refine V_asg (.n _) rfl rfl ?_   -- 11.1
            refine V_sub [(0, _), (1, _), (2, _), (4, _), (5, _), (6, _), (7, _), (8, _), (9, _), (10, _), (22, _), (23, _), (24, _), (25, _), (43, _)] ⟨rfl, rfl, rfl, rfl, rfl, rfl, rfl, rfl, rfl, rfl, rfl, rfl, rfl, rfl, rfl, trivial⟩ ?_
            refine V_nil (.inl rfl) ?_
            refine E_then ?_
            refine J_ret ?_
            refine E_then_ret ?_
            refine E_blk_ret ?_
            refine E_then_ret ?_
            refine E_lp_ret ?_
            refine E_blk_ret ?_
            refine E_then_ret ?_
            -- return R1
            refine E_ret2 Tryd.results35 rfl rfl (fun w hw => ?_)
            first
            | exact ⟨by rw [costR, if_neg (by rw [validP_iff.2 hv]; simp), if_neg (by rw [ordB_out (k := k) (by omega) (by omega)]; simp)], hw.sub (fun x hx => by simp at hx) (by simp [keys])⟩
            | exact ⟨by rw [costR, if_neg (by rw [validP_iff.2 hv]; simp), if_neg (by rw [ordB_fol (k := k) (by omega) (by rw [hje]; simpa using ‹(!fol _ _ _) = true›)]; simp)], hw.sub (fun x hx => by simp at hx) (by simp [keys])⟩
            | exact ⟨by rw [costR, if_neg (by rw [validP_iff.2 hv]; simp), if_neg (by rw [ordB_out (k := k) (by omega) (by omega)]; simp)], hw.sub (fun x hx => by simp at hx) (by simp [keys])⟩
            | exact ⟨by rw [costR, if_neg (by rw [validP_iff.2 hv]; simp), if_pos (ordB_yes hol (by rw [show k = st.length by omega] at hok; exact hok) (fun i hi => hrg i (by omega))), List.take_of_length_le (by rw [ns_length]; omega)], hw.sub (fun x hx => by simp at hx) (by simp [keys])⟩
          · skip
            refine V_go (2, false) rfl ?_
            refine V_mov (.n _) rfl rfl ?_   -- 10.3
            refine V_go (2, false) rfl ?_
            refine V_mov (.n _) rfl rfl ?_   -- 10.4
            refine V_go (2, false) rfl ?_
            refine V_len (.n _) Tryd.underlying34 rfl rfl ?_   -- 10.5
            refine V_go (2, false) rfl ?_
            refine V_geq (.n _) rfl rfl rfl ?_   -- 10.6
            refine V_pickF (.n _) rfl rfl rfl ?_   -- 10.7
            refine V_mov (.n _) rfl rfl ?_   -- 10.8
            refine V_split 37 rfl (fun h5 => ?_) (fun h5 => ?_)   -- guard 10.8
            · skip
              refine V_pass (.n .p) (8, false) rfl rfl ?_   -- 10.9
              refine V_pass (.n .p) (8, false) rfl rfl ?_   -- 10.10
              refine V_pass (.n .p) (8, false) rfl rfl ?_   -- 10.11
              refine V_pass (.n .p) (8, false) rfl rfl ?_   -- 10.12
              refine V_pass (.n .p) (8, false) rfl rfl ?_   -- 10.13
              refine V_pickT (.n _) rfl rfl rfl ?_   -- 10.14
              refine V_sub [(0, _), (1, _), (2, _), (6, _), (7, _), (8, _), (9, _), (10, _), (22, _), (23, _), (24, _), (25, _), (43, _)] ⟨rfl, rfl, rfl, rfl, rfl, rfl, rfl, rfl, rfl, rfl, rfl, rfl, rfl, trivial⟩ ?_
              refine V_nil (.inl rfl) ?_
              refine E_then ?_
              refine J_condT rfl ?_
              refine J_seq ?_
              refine J_region ?_
              refine V_asg (.n _) rfl rfl ?_   -- 11.0
              refine V_asg (.n _) rfl rfl ?_   -- 11.1
              refine V_sub [(0, _), (1, _), (2, _), (4, _), (5, _), (6, _), (7, _), (8, _), (9, _), (10, _), (22, _), (23, _), (24, _), (25, _), (43, _)] ⟨rfl, rfl, rfl, rfl, rfl, rfl, rfl, rfl, rfl, rfl, rfl, rfl, rfl, rfl, rfl, trivial⟩ ?_
              refine V_nil (.inl rfl) ?_
              refine E_then ?_
              refine J_ret ?_
              refine E_then_ret ?_
              refine E_blk_ret ?_
              refine E_then_ret ?_
              refine E_lp_ret ?_
              refine E_blk_ret ?_
              refine E_then_ret ?_
              -- return R2
              refine E_ret2 Tryd.results35 rfl rfl (fun w hw => ?_)
              first
              | exact ⟨by rw [costR, if_neg (by rw [validP_iff.2 hv]; simp), if_neg (by rw [ordB_out (k := k) (by omega) (by omega)]; simp)], hw.sub (fun x hx => by simp at hx) (by simp [keys])⟩
              | exact ⟨by rw [costR, if_neg (by rw [validP_iff.2 hv]; simp), if_neg (by rw [ordB_fol (k := k) (by omega) (by rw [hje]; simpa using ‹(!fol _ _ _) = true›)]; simp)], hw.sub (fun x hx => by simp at hx) (by simp [keys])⟩
              | exact ⟨by rw [costR, if_neg (by rw [validP_iff.2 hv]; simp), if_neg (by rw [ordB_out (k := k) (by omega) (by omega)]; simp)], hw.sub (fun x hx => by simp at hx) (by simp [keys])⟩
              | exact ⟨by rw [costR, if_neg (by rw [validP_iff.2 hv]; simp), if_pos (ordB_yes hol (by rw [show k = st.length by omega] at hok; exact hok) (fun i hi => hrg i (by omega))), List.take_of_length_le (by rw [ns_length]; omega)], hw.sub (fun x hx => by simp at hx) (by simp [keys])⟩
            · skip
              refine V_go (8, false) rfl ?_
              refine V_mov (.n _) rfl rfl ?_   -- 10.9
              refine V_go (8, false) rfl ?_
              refine V_mov (.n _) rfl rfl ?_   -- 10.10
              refine V_go (8, false) rfl ?_
              refine V_mov (.n _) rfl rfl ?_   -- 10.11
              refine V_go (8, false) rfl ?_
              have hj0 : 0 ≤ os.getD k 0 ∧ os.getD k 0 < st.length := by constructor <;> omega
              obtain ⟨j, hje⟩ : ∃ j : Nat, os.getD k 0 = (j : Int) := ⟨(os.getD k 0).toNat, by omega⟩
              have hel := endO_lt hok
              rw [hje]
              refine V_call0 (.n _) Tryd.call78 (.cons rfl (.cons rfl (.cons rfl .nil))) (fun w1 hw1 => follows_spec w1 (some ⟨bN, 0, none⟩) st.length st.length (endO 0 ((ns os).take k)) j (natB be) hn10 hel (by omega) (hv.needF j) (Rd.own hw1 (t := 3) (by repeat (first | exact List.Mem.head _ | assumption | apply List.Mem.tail)))) rfl trivial ?_   -- 10.12
              refine V_go (8, false) rfl ?_
              refine V_notB (.n _) rfl rfl ?_   -- 10.13
              refine V_pickF (.n _) rfl rfl rfl ?_   -- 10.14
              refine V_sub [(0, _), (1, _), (2, _), (6, _), (7, _), (8, _), (9, _), (10, _), (22, _), (23, _), (24, _), (25, _), (43, _)] ⟨rfl, rfl, rfl, rfl, rfl, rfl, rfl, rfl, rfl, rfl, rfl, rfl, rfl, trivial⟩ ?_
              refine V_nil (.inl rfl) ?_
              refine E_then ?_
              refine J_condB rfl (fun h6 => ?_) (fun h6 => ?_)   -- C3
              · skip
                refine J_seq ?_
                refine J_region ?_
                refine V_asg (.n _) rfl rfl ?_   -- 11.0
                refine V_asg (.n _) rfl rfl ?_   -- 11.1
                refine V_sub [(0, _), (1, _), (2, _), (4, _), (5, _), (6, _), (7, _), (8, _), (9, _), (10, _), (22, _), (23, _), (24, _), (25, _), (43, _)] ⟨rfl, rfl, rfl, rfl, rfl, rfl, rfl, rfl, rfl, rfl, rfl, rfl, rfl, rfl, rfl, trivial⟩ ?_
                refine V_nil (.inl rfl) ?_
                refine E_then ?_
                refine J_ret ?_
                refine E_then_ret ?_
                refine E_blk_ret ?_
                refine E_then_ret ?_
                refine E_lp_ret ?_
                refine E_blk_ret ?_
                refine E_then_ret ?_
                -- return R3
                refine E_ret2 Tryd.results35 rfl rfl (fun w hw => ?_)
                first
                | exact ⟨by rw [costR, if_neg (by rw [validP_iff.2 hv]; simp), if_neg (by rw [ordB_out (k := k) (by omega) (by omega)]; simp)], hw.sub (fun x hx => by simp at hx) (by simp [keys])⟩
                | exact ⟨by rw [costR, if_neg (by rw [validP_iff.2 hv]; simp), if_neg (by rw [ordB_fol (k := k) (by omega) (by rw [hje]; simpa using ‹(!fol _ _ _) = true›)]; simp)], hw.sub (fun x hx => by simp at hx) (by simp [keys])⟩
                | exact ⟨by rw [costR, if_neg (by rw [validP_iff.2 hv]; simp), if_neg (by rw [ordB_out (k := k) (by omega) (by omega)]; simp)], hw.sub (fun x hx => by simp at hx) (by simp [keys])⟩
                | exact ⟨by rw [costR, if_neg (by rw [validP_iff.2 hv]; simp), if_pos (ordB_yes hol (by rw [show k = st.length by omega] at hok; exact hok) (fun i hi => hrg i (by omega))), List.take_of_length_le (by rw [ns_length]; omega)], hw.sub (fun x hx => by simp at hx) (by simp [keys])⟩
              · have hfol : fol (natB be) (endO 0 ((ns os).take k)) j = true := by simpa using h6
                obtain ⟨hok2, hen2⟩ := okO_next (n := st.length) (by omega) hje (by omega) hok hfol
                refine J_skip ?_
                refine E_then ?_
                refine J_seq ?_
                refine J_region ?_
                refine V_mov (.n _) rfl rfl ?_   -- 12.0
                refine V_mov (.n _) rfl rfl ?_   -- 12.1
                refine V_shl (.n _) rfl rfl (by omega) (by simp [IntKind.bits]; omega) (by rw [shl_nat]; exact wrap_nat (lt63 (Nat.pow_lt_pow_right (by decide) (show j < 10 by omega)) (Nat.le_refl _))) rfl ?_   -- 12.2
                rw [shl_nat]
                refine V_or (r := ((endO 0 ((ns os).take k) ||| 2 ^ j : Nat) : Int)) (.n _) rfl rfl (bits_or (by omega) (lt63 (Nat.pow_lt_pow_right (by decide) (show j < 10 by omega)) (Nat.le_refl _))) rfl ?_   -- 12.3
                refine V_asg (.n _) rfl rfl ?_   -- 12.4
                refine V_sub [(0, _), (1, _), (2, _), (6, _), (7, _), (8, _), (9, _), (10, _), (22, _), (23, _), (24, _), (25, _), (43, _)] ⟨rfl, rfl, rfl, rfl, rfl, rfl, rfl, rfl, rfl, rfl, rfl, rfl, rfl, trivial⟩ ?_
                refine V_nil (.inl rfl) ?_
                refine E_then ?_
                refine J_seq ?_
                refine J_region ?_
                refine V_mov (.n _) rfl rfl ?_   -- 13.0
                refine V_eql (.n _) rfl rfl rfl ?_   -- 13.1
                refine V_sub [(0, _), (1, _), (2, _), (6, _), (7, _), (8, _), (9, _), (10, _), (22, _), (23, _), (24, _), (25, _), (43, _), (49, _)] ⟨rfl, rfl, rfl, rfl, rfl, rfl, rfl, rfl, rfl, rfl, rfl, rfl, rfl, rfl, trivial⟩ ?_
                refine V_nil (.inl rfl) ?_
                refine E_then ?_
                refine J_cond rfl (fun h7 => ?_) (fun h7 => ?_)   -- C4
                · skip
                  refine J_region ?_
                  first | refine V_fa0 (.n _) fo51_0 rfl rfl ?_ | refine V_faz (.n _) fo51_0 rfl rfl ?_ | refine V_fa (.n _) fo51_0 rfl rfl ?_   -- 14.0
                  refine V_ld (.n _) Tryd.isAgg34 rfl (by repeat (first | exact List.Mem.head _ | assumption | apply List.Mem.tail)) (by rfl) rfl ?_   -- 14.1
                  refine V_mov (.n _) rfl rfl ?_   -- 14.2
                  first | refine V_ix (.n _) Tryd.underlying34 Tryd.sizeOf3 rfl rfl (by omega) (by omega) rfl ?_ | refine V_ixz (.n _) Tryd.underlying34 Tryd.sizeOf3 rfl rfl (hp.h2.rd.pl (by rw [hp.h2.len]; omega)) (by omega) (by omega) rfl ?_ | refine V_ixz (.n _) Tryd.underlying34 Tryd.sizeOf3 rfl rfl (hrr.pl (by simp)) (by omega) (by omega) rfl ?_ | refine V_ixz (.n _) Tryd.underlying34 Tryd.sizeOf3 rfl rfl (hp.h1.pl (by simp)) (by omega) (by omega) rfl ?_ | refine V_ixz (.n _) Tryd.underlying34 Tryd.sizeOf3 rfl rfl (ho.pl (by simp)) (by omega) (by omega) rfl ?_   -- 14.3
                  refine V_ldz (.n _) Tryd.isAgg3 rfl hp.h1 (I_getN (i := j) (by omega)) rfl ?_   -- 14.4
                  refine V_asg (.n _) rfl rfl ?_   -- 14.5
                  refine V_sub [(0, _), (1, _), (2, _), (6, _), (7, _), (8, _), (9, _), (10, _), (22, _), (23, _), (24, _), (25, _), (43, _), (49, _)] ⟨rfl, rfl, rfl, rfl, rfl, rfl, rfl, rfl, rfl, rfl, rfl, rfl, rfl, rfl, trivial⟩ ?_
                  refine V_nil (.inl rfl) ?_
                  refine E_blk ?_
                  refine E_then ?_
                  refine J_region ?_
                  refine V_add (.n _) rfl rfl (wrap_ok (by omega)) rfl ?_   -- 16.0
                  refine V_mov (.n _) rfl rfl ?_   -- 16.1
                  refine V_sub [(0, _), (1, _), (2, _), (6, _), (7, _), (8, _), (9, _), (10, _), (22, _), (23, _), (24, _), (25, _), (43, _), (49, _)] ⟨rfl, rfl, rfl, rfl, rfl, rfl, rfl, rfl, rfl, rfl, rfl, rfl, rfl, rfl, trivial⟩ ?_
                  refine V_nil (.inl rfl) ?_
                  -- again L0 0
                  obtain rfl : k = 0 := by omega
                  refine E_again (0 + 1) ?_ ?_ ?_ (fun w h => h)
                  · omega
                  · exact ⟨by omega, hok2, fun i hi => by by_cases e : i = 0; (subst e; exact hj0); exact hrg i (by omega)⟩
                  · refine ⟨?_, ?_, ?_, ?_, ?_, ?_, ?_, ?_, ?_, trivial⟩ <;> first | rfl | exact int_eq (by omega) | exact int_eq (by rw [hen2]) | exact int_eq (sumO_first (by omega) hje).symm
                · skip
                  refine J_draw (Gs := _) (cl := [.p, .p, .r, .p, .p, .p, .p, .r, .p, .r, .p, .p, .r, .p, .p]) (by kernel_rfl) (fun _ _ h => h) ?_
                  refine V_mov (.s _ _ _) rfl rfl ?_   -- 15.0
                  first | refine V_fa0 (.s _ _ _) fo51_1 rfl rfl ?_ | refine V_faz (.s _ _ _) fo51_1 rfl rfl ?_ | refine V_fa (.s _ _ _) fo51_1 rfl rfl ?_   -- 15.1
                  refine V_ld (.s _ _ _) Tryd.isAgg45 rfl (by repeat (first | exact List.Mem.head _ | assumption | apply List.Mem.tail)) (by rfl) rfl ?_   -- 15.2
                  refine V_mov (.s _ _ _) rfl rfl ?_   -- 15.3
                  refine V_mov (.s _ _ _) rfl rfl ?_   -- 15.4
                  obtain ⟨q, rfl⟩ : ∃ q, k = q + 1 := ⟨k - 1, by omega⟩
                  obtain ⟨i, hie⟩ : ∃ i : Nat, os.getD q 0 = (i : Int) := ⟨(os.getD q 0).toNat, by have := hrg q (by omega); omega⟩
                  have hi := hrg q (by omega)
                  refine V_sub1 (.s _ _ _) rfl rfl (wrap_ok (by omega)) rfl ?_   -- 15.5
                  rw [show (((q + 1 : Nat) : Int) - 1) = (q : Int) by omega]
                  first | refine V_ix (.s _ _ _) Tryd.underlying34 Tryd.sizeOf3 rfl rfl (by omega) (by omega) rfl ?_ | refine V_ixz (.s _ _ _) Tryd.underlying34 Tryd.sizeOf3 rfl rfl (hp.h2.rd.pl (by rw [hp.h2.len]; omega)) (by omega) (by omega) rfl ?_ | refine V_ixz (.s _ _ _) Tryd.underlying34 Tryd.sizeOf3 rfl rfl (hrr.pl (by simp)) (by omega) (by omega) rfl ?_ | refine V_ixz (.s _ _ _) Tryd.underlying34 Tryd.sizeOf3 rfl rfl (hp.h1.pl (by simp)) (by omega) (by omega) rfl ?_ | refine V_ixz (.s _ _ _) Tryd.underlying34 Tryd.sizeOf3 rfl rfl (ho.pl (by simp)) (by omega) (by omega) rfl ?_   -- 15.6
                  refine V_ldz (.s _ _ _) Tryd.isAgg3 rfl ho (I_getN (i := q) (by omega)) rfl ?_   -- 15.7
                  rw [hie]
                  first | refine V_ix (.s _ _ _) Tryd.underlying45 Tryd.sizeOf34 rfl rfl (by omega) (by omega) rfl ?_ | refine V_ixz (.s _ _ _) Tryd.underlying45 Tryd.sizeOf34 rfl rfl (hp.h2.rd.pl (by rw [hp.h2.len]; omega)) (by omega) (by omega) rfl ?_ | refine V_ixz (.s _ _ _) Tryd.underlying45 Tryd.sizeOf34 rfl rfl (hrr.pl (by simp)) (by omega) (by omega) rfl ?_ | refine V_ixz (.s _ _ _) Tryd.underlying45 Tryd.sizeOf34 rfl rfl (hp.h1.pl (by simp)) (by omega) (by omega) rfl ?_ | refine V_ixz (.s _ _ _) Tryd.underlying45 Tryd.sizeOf34 rfl rfl (ho.pl (by simp)) (by omega) (by omega) rfl ?_   -- 15.8
                  obtain ⟨Ai, ci, hrow, hrr⟩ := hp.h2.get (i := i) (by omega)
                  have hrl := (hv.row (i := i) (by omega)).1
                  refine V_ldz (.s _ _ _) Tryd.isAgg34 rfl hp.h2.rd hrow rfl ?_   -- 15.9
                  refine V_mov (.s _ _ _) rfl rfl ?_   -- 15.10
                  first | refine V_ix (.s _ _ _) Tryd.underlying34 Tryd.sizeOf3 rfl rfl (by omega) (by omega) rfl ?_ | refine V_ixz (.s _ _ _) Tryd.underlying34 Tryd.sizeOf3 rfl rfl (hp.h2.rd.pl (by rw [hp.h2.len]; omega)) (by omega) (by omega) rfl ?_ | refine V_ixz (.s _ _ _) Tryd.underlying34 Tryd.sizeOf3 rfl rfl (hrr.pl (by simp)) (by omega) (by omega) rfl ?_ | refine V_ixz (.s _ _ _) Tryd.underlying34 Tryd.sizeOf3 rfl rfl (hp.h1.pl (by simp)) (by omega) (by omega) rfl ?_ | refine V_ixz (.s _ _ _) Tryd.underlying34 Tryd.sizeOf3 rfl rfl (ho.pl (by simp)) (by omega) (by omega) rfl ?_   -- 15.11
                  refine V_ldz (.s _ _ _) Tryd.isAgg3 rfl hrr (I_getN (i := j) (by omega)) rfl ?_   -- 15.12
                  rw [show (ch.getD i []).getD j 0 = cst ch i j from rfl]
                  have hcb := hv.ok.change i j (by omega) (by omega)
                  have hsb := sumO_bd hv.ok ((ns os).take (q + 1)) none (fun i hi => by cases hi) (okO_lt _ _ hok)
                  have htl : ((ns os).take (q + 1)).length = q + 1 := by simp; omega
                  rw [htl] at hsb
                  refine V_add (.s _ _ _) rfl rfl (wrap_ok (by omega)) rfl ?_   -- 15.13
                  refine V_asg (.s _ _ _) rfl rfl ?_   -- 15.14
                  refine V_sub [(0, _), (1, _), (2, _), (6, _), (7, _), (8, _), (9, _), (10, _), (22, _), (23, _), (24, _), (25, _), (43, _), (49, _)] ⟨rfl, rfl, rfl, rfl, rfl, rfl, rfl, rfl, rfl, rfl, rfl, rfl, rfl, rfl, trivial⟩ ?_
                  refine V_nil (.inr ⟨_, rfl⟩) ?_
                  refine E_blk ?_
                  refine E_then ?_
                  refine J_region ?_
                  refine V_add (.n _) rfl rfl (wrap_ok (by omega)) rfl ?_   -- 16.0
                  refine V_mov (.n _) rfl rfl ?_   -- 16.1
                  refine V_sub [(0, _), (1, _), (2, _), (6, _), (7, _), (8, _), (9, _), (10, _), (22, _), (23, _), (24, _), (25, _), (43, _), (49, _)] ⟨rfl, rfl, rfl, rfl, rfl, rfl, rfl, rfl, rfl, rfl, rfl, rfl, rfl, rfl, trivial⟩ ?_
                  refine V_nil (.inl rfl) ?_
                  -- again L0 1
                  refine E_again (q + 1 + 1) ?_ ?_ ?_ (fun w h => h)
                  · omega
                  · exact ⟨by omega, hok2, fun i hi => by by_cases e : i = q + 1; (subst e; exact hj0); exact hrg i (by omega)⟩
                  · refine ⟨?_, ?_, ?_, ?_, ?_, ?_, ?_, ?_, ?_, trivial⟩ <;> first | rfl | exact int_eq (by omega) | exact int_eq (by rw [hen2]) | exact int_eq (sumO_next (by omega) hie hje).symm
        · skip
          refine J_exit ?_
          refine E_then_exit ?_
          refine E_lp_exit ?_
          refine E_blk_hit ?_
          refine E_then ?_
          refine J_seq ?_
          refine J_region ?_
          refine V_mov (.n _) rfl rfl ?_   -- 17.0
          refine V_asg (.n _) rfl rfl ?_   -- 17.1
          refine V_asg (.n _) rfl rfl ?_   -- 17.2
          refine V_sub [(0, _), (1, _), (2, _), (4, _), (5, _), (6, _), (7, _), (8, _), (22, _), (23, _), (24, _), (25, _)] ⟨rfl, rfl, rfl, rfl, rfl, rfl, rfl, rfl, rfl, rfl, rfl, rfl, trivial⟩ ?_
          refine V_nil (.inl rfl) ?_
          refine E_then ?_
          refine J_ret ?_
          -- return R4
          refine E_ret2 Tryd.results35 rfl rfl (fun w hw => ?_)
          first
          | exact ⟨by rw [costR, if_neg (by rw [validP_iff.2 hv]; simp), if_neg (by rw [ordB_out (k := k) (by omega) (by omega)]; simp)], hw.sub (fun x hx => by simp at hx) (by simp [keys])⟩
          | exact ⟨by rw [costR, if_neg (by rw [validP_iff.2 hv]; simp), if_neg (by rw [ordB_fol (k := k) (by omega) (by rw [hje]; simpa using ‹(!fol _ _ _) = true›)]; simp)], hw.sub (fun x hx => by simp at hx) (by simp [keys])⟩
          | exact ⟨by rw [costR, if_neg (by rw [validP_iff.2 hv]; simp), if_neg (by rw [ordB_out (k := k) (by omega) (by omega)]; simp)], hw.sub (fun x hx => by simp at hx) (by simp [keys])⟩
          | exact ⟨by rw [costR, if_neg (by rw [validP_iff.2 hv]; simp), if_pos (ordB_yes hol (by rw [show k = st.length by omega] at hok; exact hok) (fun i hi => hrg i (by omega))), List.take_of_length_le (by rw [ns_length]; omega)], hw.sub (fun x hx => by simp at hx) (by simp [keys])⟩

end Go.Proofs.YtgeahmmepfmcoaaDoor
