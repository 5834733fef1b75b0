/- parts that the proof of BathTours uses -/
import Derived.Test.YtgeahmmepfmcoaaDoorCore12
namespace Go.Proofs.YtgeahmmepfmcoaaDoor
open Go Go.RowKit L
set_option linter.unusedVariables false
set_option linter.unusedSimpArgs false

theorem notT {b : Bool} (h : (!b) = true) : b = false := by cases b <;> simp_all
theorem notF {b : Bool} (h : (!b) = false) : b = true := by cases b <;> simp_all
structure DP (d : Rows2) : Prop where
  n3 : 3 ≤ d.length
  n9 : d.length ≤ 9
  rws : ∀ r ∈ d, costsB r d.length = true
  sym : ∀ i j, i < d.length → j < d.length → cst d i j = cst d j i
  zero : ∀ i, i < d.length → cst d i i = 0
noncomputable def distP (d : Rows2) : Bool := @decide (DP d) (Classical.propDecidable _)
theorem distP_yes {d : Rows2} (h : DP d) : distP d = true := by unfold distP; exact @decide_eq_true _ (Classical.propDecidable _) h
theorem distP_no {d : Rows2} (h : ¬ DP d) : distP d = false := by unfold distP; exact @decide_eq_false _ (Classical.propDecidable _) h
theorem distP_iff {d : Rows2} : distP d = true ↔ DP d := by
  by_cases h : DP d
  · simp [distP_yes h, h]
  · simp [distP_no h, h]
theorem DP.row {d : Rows2} (h : DP d) {i : Nat} (hi : i < d.length) : (d.getD i []).length = d.length ∧ ∀ j, j < d.length → 0 ≤ (d.getD i []).getD j 0 ∧ (d.getD i []).getD j 0 ≤ 1000 := costsB_get (h.rws _ (getD_mem hi))
theorem DP.costs {d : Rows2} (h : DP d) : Costs d.length d := fun i j hi hj => (h.row hi).2 j hj
theorem rows_len {d : Rows2} {n : Nat} (h : ∀ j, j < d.length → costsB (d.getD j []) n = true) {i : Nat} (hi : i < d.length) : (d.getD i []).length = n := (costsB_get (h i hi)).1
theorem rows_all {d : Rows2} {n : Nat} (h : ∀ j, j < d.length → costsB (d.getD j []) n = true) : ∀ r ∈ d, costsB r n = true := by
  intro r hr
  obtain ⟨i, hi, rfl⟩ := List.mem_iff_getElem.1 hr
  have := h i hi
  simpa [hi] using this
theorem dp_rows {d : Rows2} {k : Nat} (hk : k < d.length) (h : costsB (d.getD k []) d.length = false) : ¬ DP d := fun hd => by
  have := hd.rws _ (getD_mem (d := []) hk)
  rw [h] at this; simp at this
theorem dp_size {d : Rows2} (h : d.length < 3 ∨ 9 < d.length) : ¬ DP d := fun hd => by
  have h3 := hd.n3
  have h9 := hd.n9
  omega
theorem dp_sym {d : Rows2} {i j : Nat} (hi : i < d.length) (hj : j < d.length) (h : ¬ (d.getD i []).getD j 0 = (d.getD j []).getD i 0) : ¬ DP d := fun hd => h (hd.sym i j hi hj)
theorem dp_zero {d : Rows2} {i j : Nat} (hi : i < d.length) (e : i = j) (h : ¬ (d.getD i []).getD j 0 = 0) : ¬ DP d := fun hd => by
  subst e; exact h (hd.zero i hi)

theorem dp_rowl {d : Rows2} {k : Nat} (hk : k < d.length) (h : ((d.getD k []).length : Int) ≠ (d.length : Int)) : ¬ DP d := dp_rows hk (costsB_len (by omega))
theorem dp_rowc {d : Rows2} {k : Nat} (hk : k < d.length) (h : (!(d.getD k []).all okC) = true) : ¬ DP d := dp_rows hk (costsB_all (by simpa using h))
theorem dp_rowb {d : Rows2} {k : Nat} (hk : k < d.length) (h : (!costsB (d.getD k []) d.length) = true) : ¬ DP d := dp_rows hk (by simpa using h)
theorem dret_no {d : Rows2} {w0 w : World} (h : ¬ DP d) (hw : St w0 [] w) : Ending.returned (Value.bool false) = Ending.returned (Value.bool (distP d)) ∧ St w0 [] w := ⟨by rw [distP_no h], hw⟩
theorem dret_yes {d : Rows2} {w0 w : World} (h : DP d) (hw : St w0 [] w) : Ending.returned (Value.bool true) = Ending.returned (Value.bool (distP d)) ∧ St w0 [] w := ⟨by rw [distP_yes h], hw⟩
theorem dp_good {d : Rows2} {i j : Nat} (h : (d.getD i []).getD j 0 = (d.getD j []).getD i 0) (h2 : (i : Int) = (j : Int) → (d.getD i []).getD j 0 = 0) : cst d i j = cst d j i ∧ (i = j → cst d i j = 0) := ⟨h, fun e => h2 (by omega)⟩
theorem dp_good2 {d : Rows2} {i j : Nat} (h : (d.getD i []).getD j 0 = (d.getD j []).getD i 0) (h2 : (d.getD i []).getD i 0 = 0) : cst d i j = cst d j i ∧ cst d i i = 0 := ⟨h, h2⟩
theorem dp_make {d : Rows2} {i : Nat} (h3 : 3 ≤ d.length) (h9 : d.length ≤ 9) (hrw : ∀ j, j < d.length → costsB (d.getD j []) d.length = true) (hi : d.length ≤ i) (h : ∀ a b, a < i → b < d.length → cst d a b = cst d b a ∧ (a = b → cst d a b = 0)) : DP d :=
  ⟨h3, h9, rows_all hrw, fun a b ha hb => (h a b (by omega) hb).1, fun a ha => (h a a (by omega) ha).2 rfl⟩
theorem dp_make2 {d : Rows2} {i : Nat} (h3 : 3 ≤ d.length) (h9 : d.length ≤ 9) (hrw : ∀ j, j < d.length → costsB (d.getD j []) d.length = true) (hi : d.length ≤ i) (h : ∀ a b, a < i → b < d.length → cst d a b = cst d b a ∧ cst d a a = 0) : DP d :=
  ⟨h3, h9, rows_all hrw, fun a b ha hb => (h a b (by omega) hb).1, fun a ha => (h a a (by omega) ha).2⟩

def few (d : Rows2) : Rows2 := (d.take 11).map fun r => r.take 11
theorem few_len (d : Rows2) : (few d).length = min 11 d.length := by simp [few]
theorem few_get {d : Rows2} {i : Nat} (h : i < d.length) (h2 : i < 11) : (few d).getD i [] = (d.getD i []).take 11 := by
  have h3 : i < (d.take 11).length := by rw [List.length_take]; omega
  simp [few, h, h2]
theorem few_rows {d : Rows2} : ∀ r ∈ few d, r.length ≤ 140737488351232 := by
  intro r hr
  obtain ⟨x, _, rfl⟩ := List.mem_map.1 hr
  rw [List.length_take]; omega
theorem few_same {d : Rows2} (h : DP d) : few d = d := by
  have h9 := h.n9
  unfold few
  rw [List.take_of_length_le (by omega)]
  refine (List.map_congr_left (g := id) fun r hr => ?_).trans (List.map_id _)
  exact List.take_of_length_le (by have := (costsB_get (h.rws r hr)).1; omega)
theorem few_dp {d : Rows2} (h : DP (few d)) : DP d := by
  have h9 := h.n9
  have hl := few_len d
  have e1 : d.length = (few d).length := by omega
  have e2 : few d = d := by
    unfold few
    rw [List.take_of_length_le (by omega)]
    refine (List.map_congr_left (g := id) fun r hr => ?_).trans (List.map_id _)
    have hm : r.take 11 ∈ few d := List.mem_map.2 ⟨r, by rw [List.take_of_length_le (by omega)]; exact hr, rfl⟩
    have h2 := (costsB_get (h.rws _ hm)).1
    rw [List.length_take] at h2
    exact List.take_of_length_le (by omega)
  rw [e2] at h; exact h
theorem few_dist (d : Rows2) : distP (few d) = distP d := by
  rw [Bool.eq_iff_iff, distP_iff, distP_iff]
  exact ⟨few_dp, fun h => by rw [few_same h]; exact h⟩

def MRds (D : List Ent) (A : Option Addr) (vs : List Value) (d : Rows2) : Prop := ∀ w, (∀ x ∈ D, x.ok w) → Mx w A vs d
theorem MRds.at {D G : List Ent} {A : Option Addr} {vs : List Value} {d : Rows2} {w0 w : World} (h : MRds D A vs d) (hw : St w0 G w) (hs : ∀ x ∈ D, x ∈ G) : Mx w A vs d := h w fun x hx => hw.has x (hs x hx)
def RowOk2 (m : Nat) (ch : Rows2) (rvs : List Value) (Xs : List Ent) (i : Nat) : Prop := ∃ A c X, rvs[i]? = some (.slice A ((ch.getD i []).take m).length c) ∧ X ∈ Xs ∧ Rds [X] A (I ((ch.getD i []).take m))
theorem rows_next2 {m : Nat} {ch : Rows2} {rvs : List Value} {Xs : List Ent} {k : Nat} {A : Option Addr} {c : Nat} {X : Ent} (hl : rvs.length = k) (h : ∀ i, i < k → RowOk2 m ch rvs Xs i) (hr : Rds [X] A (I ((ch.getD k []).take m))) :
    ∀ i, i < k + 1 → RowOk2 m ch (rvs ++ [.slice A ((ch.getD k []).take m).length c]) (X :: Xs) i := by
  intro i hi
  by_cases e : i = k
  · subst e
    exact ⟨A, c, X, by rw [List.getElem?_append_right (by omega)]; simp [hl], by simp, hr⟩
  · obtain ⟨A', c', X', h1, h2, h3⟩ := h i (by omega)
    exact ⟨A', c', X', by rw [List.getElem?_append_left (by omega)]; exact h1, by simp [h2], h3⟩
theorem few_st {w0 w : World} {a r x : Ent} {Xs : List Ent} (h : St w0 (a :: r :: x :: Xs) w) : St w0 (x :: r :: Xs) w := (h.sublist (List.sublist_cons_self _ _)).perm (List.Perm.swap _ _ _)
theorem few_spec (w : World) (A : Option Addr) (c : Nat) (vs : List Value) (d : Rows2) (hl : d.length ≤ 140737488351232) (hm : Mx w A vs d) (hlr : ∀ r ∈ d, r.length ≤ 140737488351232) (hcr : ∀ (i : Nat) (A : Option Addr) (l c : Nat), vs[i]? = some (Value.slice A l c) → l ≤ c) : Calls Tryd.prog 44 #[.slice A d.length c] w fun e w' => ∃ v D, e = .returned v ∧ St w D w' ∧ ∃ A' c' vs', v = .slice A' (few d).length c' ∧ MRds D A' vs' (few d) := by
  refine calls (args := [.slice A d.length c]) Tryd.func44 rfl Tryd.ntmps44 (Nat.le_of_ble_eq_true rfl) (St.refl w) ?_
  refine J_seq ?_
  refine J_region ?_
  refine V_asg (.n _) rfl rfl ?_   -- 0.0
  refine V_sub [(0, _), (2, _)] ⟨rfl, rfl, trivial⟩ ?_
  refine V_nil (.inl rfl) ?_
  refine E_then ?_
  refine J_seq ?_
  refine J_region ?_
  refine V_asg (.n _) rfl rfl ?_   -- 1.0
  refine V_sub [(0, _), (2, _), (3, _)] ⟨rfl, rfl, rfl, trivial⟩ ?_
  refine V_nil (.inl rfl) ?_
  refine E_then ?_
  refine J_seq ?_
  refine J_seq ?_
  refine J_region ?_
  refine V_mov (.n _) rfl rfl ?_   -- 2.0
  refine V_len (.n _) Tryd.underlying45 rfl rfl ?_   -- 2.1
  refine V_mov (.n _) rfl rfl ?_   -- 2.2
  refine V_sub [(0, _), (2, _), (3, _), (6, _), (7, _), (8, _)] ⟨rfl, rfl, rfl, rfl, rfl, rfl, trivial⟩ ?_
  refine V_nil (.inl rfl) ?_
  refine E_then ?_
  refine J_block ?_
  -- loop L0
  refine J_loop (X := Nat × Value × Ent × List Value × List Ent) (fun x => [(0, (.slice A d.length c)), (2, (.slice none 0 0)), (3, x.2.1), (6, (.slice A d.length c)), (7, (.int .i64 ((d.length : Nat) : Int))), (8, .int .i64 (x.1 : Nat))]) (fun x => x.2.2.1 :: x.2.2.2.2) (fun x => x.1 ≤ d.length ∧ x.1 ≤ 11 ∧ Own 34 1 x.2.1 x.1 x.2.2.2.1 x.2.2.1 ∧ x.2.2.2.1.length = x.1 ∧ ∀ i, i < x.1 → RowOk2 11 d x.2.2.2.1 x.2.2.2.2 i) (fun x => d.length - x.1) (0, .slice none 0 0, .e, [], []) (by refine ⟨?_, ?_, ?_, ?_, ?_, ?_, trivial⟩ <;> first | rfl | exact int_eq (by omega)) (fun w h => st_empty h) ?_ ?_
  · exact ⟨Nat.zero_le _, Nat.zero_le _, Own.nil _ _ _, rfl, fun i hi => by omega⟩
  · rintro ⟨k, v1, X1, rvs, Xs⟩ ⟨hk, hk12, hown, hrl, hrs⟩
    dsimp only at hk hk12 hown hrl hrs ⊢
    refine J_seq ?_
    refine J_region ?_
    refine V_lss (.n _) rfl rfl rfl ?_   -- 3.0
    refine V_sub [(0, _), (2, _), (3, _), (6, _), (7, _), (8, _), (9, _)] ⟨rfl, rfl, rfl, rfl, rfl, rfl, rfl, trivial⟩ ?_
    refine V_nil (.inl rfl) ?_
    refine E_then ?_
    refine J_seq ?_
    refine J_cond rfl (fun h1 => ?_) (fun h1 => ?_)   -- C0
    · skip
      refine J_skip ?_
      refine E_then ?_
      refine J_seq ?_
      refine J_block ?_
      refine J_seq ?_
      refine J_region ?_
      refine V_mov (.n _) rfl rfl ?_   -- 4.0
      first | refine V_ix (.n _) Tryd.underlying45 Tryd.sizeOf34 rfl rfl (by omega) (by omega) rfl ?_ | refine V_ixz (.n _) Tryd.underlying45 Tryd.sizeOf34 rfl rfl (hm.rd.pl (by rw [hm.len]; omega)) (by omega) (by omega) rfl ?_   -- 4.1
      obtain ⟨Ai, ci, hrow, hrr⟩ := hm.get (i := k) (by omega)
      have hci : (d.getD k []).length ≤ ci := hcr k Ai _ ci (by rw [Int.toNat_natCast, Nat.mul_one] at hrow; exact hrow)
      refine V_ldz (.n _) Tryd.isAgg34 rfl hm.rd hrow rfl ?_   -- 4.2
      refine V_asg (.n _) rfl rfl ?_   -- 4.3
      refine V_asg (.n _) rfl rfl ?_   -- 4.4
      refine V_sub [(0, _), (2, _), (3, _), (4, _), (5, _), (6, _), (7, _), (8, _), (9, _)] ⟨rfl, rfl, rfl, rfl, rfl, rfl, rfl, rfl, rfl, trivial⟩ ?_
      refine V_nil (.inl rfl) ?_
      refine E_then ?_
      refine J_seq ?_
      refine J_seq ?_
      refine J_region ?_
      refine V_mov (.n _) rfl rfl ?_   -- 5.0
      refine V_gtr (.n _) rfl rfl rfl ?_   -- 5.1
      refine V_sub [(0, _), (2, _), (3, _), (4, _), (5, _), (6, _), (7, _), (8, _), (9, _), (14, _)] ⟨rfl, rfl, rfl, rfl, rfl, rfl, rfl, rfl, rfl, rfl, trivial⟩ ?_
      refine V_nil (.inl rfl) ?_
      refine E_then ?_
      refine J_cond rfl (fun h2 => ?_) (fun h2 => ?_)   -- C1
      · skip
        refine J_exit ?_
        refine E_then_exit ?_
        refine E_blk_exit rfl ?_
        refine E_then_exit ?_
        refine E_lp_exit ?_
        refine E_blk_hit ?_
        refine E_then ?_
        refine J_seq ?_
        refine J_region ?_
        refine V_mov (.n _) rfl rfl ?_   -- 8.0
        refine V_asg (.n _) rfl rfl ?_   -- 8.1
        refine V_sub [(0, _), (2, _), (3, _), (4, _), (5, _), (6, _), (7, _), (8, _), (9, _), (14, _)] ⟨rfl, rfl, rfl, rfl, rfl, rfl, rfl, rfl, rfl, rfl, trivial⟩ ?_
        refine V_nil (.inl rfl) ?_
        refine E_then ?_
        refine J_ret ?_
        -- return R0
        refine E_ret1 Tryd.results44 rfl (fun w hw => ?_)
        have hkk : k = min 11 d.length := by omega
        obtain ⟨A1, q1, rfl, _⟩ := hown.is
        rw [hkk, ← few_len d] at hown hrl
        refine ⟨_, X1 :: Xs, rfl, hw, A1, q1, rvs, by rw [few_len, ← hkk], fun w1 hx => ⟨hrl, hown.rd (hx _ (by simp)), fun i hi => ?_⟩⟩
        rw [few_len] at hi
        obtain ⟨A', c', X, h1, h2, h3⟩ := hrs i (by omega)
        rw [few_get (by omega) (by omega)]
        exact ⟨A', c', h1, h3 w1 (fun x h => hx x (by simp at h; subst h; simp [h2]))⟩
      · skip
        refine J_skip ?_
        refine E_then ?_
        refine J_region ?_
        refine V_mov (.n _) rfl rfl ?_   -- 6.0
        refine V_mov (.n _) rfl rfl ?_   -- 6.1
        refine V_mov (.n _) rfl rfl ?_   -- 6.2
        refine V_len (.n _) Tryd.underlying34 rfl rfl ?_   -- 6.3
        refine V_min (.n _) rfl rfl rfl ?_   -- 6.4
        refine V_slcH (.n _) Tryd.underlying34 Tryd.sizeOf3 rfl rfl (by omega) (by omega) hci rfl ?_   -- 6.5
        rw [show (min ((((d.getD k []).length : Nat) : Int)) 11).toNat = ((d.getD k []).take 11).length by rw [List.length_take]; omega]
        refine V_call (post := fun v D => ∃ A' c' X, v = .slice A' ((d.getD k []).take 11).length c' ∧ D = [X] ∧ Rds [X] A' (I ((d.getD k []).take 11))) (.n _) Tryd.call79 (.cons rfl .nil) (fun w1 hw1 => clone_spec w1 Ai ci ((d.getD k []).take 11) (by rw [List.length_take]; omega) (by have := (hrr.keep hw1).take 11; rw [take_I] at this; exact this)) rfl trivial ?_
        rintro _ D ⟨Ar, cr, Xr, rfl, rfl, hRr⟩
        refine V_lit (.n _) Tryd.underlying45 Tryd.sizeOf34 Tryd.zeroValue34 (.cons rfl rfl rfl .nil) rfl rfl rfl (fun _ => trivial) (fun b22 => ?_)   -- 6.7
        refine V_app (z := 1) (ms := [.slice Ar ((d.getD k []).take 11).length cr]) (X := X1) (G1 := [.c b22 34 [.slice Ar ((d.getD k []).take 11).length cr], Xr]) (.n _) Tryd.underlying45 Tryd.underlying45 Tryd.typeInfo34 rfl rfl rfl rfl rfl rfl rfl rfl hown (fun w1 hw1 => Rd.own hw1 (t := 34) (List.Mem.head _)) (by simp) (by simp [Value.oneCell']) (by omega) rfl ?_
        intro v2 X2 hown2
        obtain ⟨q1, q2, rfl, _⟩ := hown2.is
        simp only [List.cons_append, List.nil_append]
        refine V_asg (.n _) rfl rfl ?_   -- 6.9
        refine V_sub [(0, _), (2, _), (3, _), (4, _), (5, _), (6, _), (7, _), (8, _), (9, _), (14, _)] ⟨rfl, rfl, rfl, rfl, rfl, rfl, rfl, rfl, rfl, rfl, trivial⟩ ?_
        refine V_nil (.inl rfl) ?_
        refine E_blk ?_
        refine E_then ?_
        refine J_region ?_
        refine V_add (.n _) rfl rfl (wrap_ok (by omega)) rfl ?_   -- 7.0
        refine V_mov (.n _) rfl rfl ?_   -- 7.1
        refine V_sub [(0, _), (2, _), (3, _), (4, _), (5, _), (6, _), (7, _), (8, _), (9, _), (14, _)] ⟨rfl, rfl, rfl, rfl, rfl, rfl, rfl, rfl, rfl, rfl, trivial⟩ ?_
        refine V_nil (.inl rfl) ?_
        -- again L0 0
        refine E_again (X := Nat × Value × Ent × List Value × List Ent) (KI := fun x => [(0, (.slice A d.length c)), (2, (.slice none 0 0)), (3, x.2.1), (6, (.slice A d.length c)), (7, (.int .i64 ((d.length : Nat) : Int))), (8, .int .i64 (x.1 : Nat))]) (GI := fun x => x.2.2.1 :: x.2.2.2.2) (I := fun x => x.1 ≤ d.length ∧ x.1 ≤ 11 ∧ Own 34 1 x.2.1 x.1 x.2.2.2.1 x.2.2.1 ∧ x.2.2.2.1.length = x.1 ∧ ∀ i, i < x.1 → RowOk2 11 d x.2.2.2.1 x.2.2.2.2 i) (μ := fun x => d.length - x.1) (x := (k, v1, X1, rvs, Xs)) ((k + 1, .slice q1 (k + 1) q2, X2, rvs ++ [.slice Ar ((d.getD k []).take 11).length cr], Xr :: Xs)) ?_ ?_ ?_ (fun w h => few_st h)
        · show d.length - (k + 1) < d.length - k; omega
        · exact ⟨by dsimp only; omega, by dsimp only; omega, hown2, by simp [hrl], rows_next2 hrl hrs hRr⟩
        · refine ⟨?_, ?_, ?_, ?_, ?_, ?_, trivial⟩ <;> first | rfl | exact int_eq (by omega) | exact int_eq (by dsimp only; omega)
    · skip
      refine J_exit ?_
      refine E_then_exit ?_
      refine E_lp_exit ?_
      refine E_blk_hit ?_
      refine E_then ?_
      refine J_seq ?_
      refine J_region ?_
      refine V_mov (.n _) rfl rfl ?_   -- 8.0
      refine V_asg (.n _) rfl rfl ?_   -- 8.1
      refine V_sub [(0, _), (2, _), (3, _), (6, _), (7, _), (8, _), (9, _)] ⟨rfl, rfl, rfl, rfl, rfl, rfl, rfl, trivial⟩ ?_
      refine V_nil (.inl rfl) ?_
      refine E_then ?_
      refine J_ret ?_
      -- return R1
      refine E_ret1 Tryd.results44 rfl (fun w hw => ?_)
      have hkk : k = min 11 d.length := by omega
      obtain ⟨A1, q1, rfl, _⟩ := hown.is
      rw [hkk, ← few_len d] at hown hrl
      refine ⟨_, X1 :: Xs, rfl, hw, A1, q1, rvs, by rw [few_len, ← hkk], fun w1 hx => ⟨hrl, hown.rd (hx _ (by simp)), fun i hi => ?_⟩⟩
      rw [few_len] at hi
      obtain ⟨A', c', X, h1, h2, h3⟩ := hrs i (by omega)
      rw [few_get (by omega) (by omega)]
      exact ⟨A', c', h1, h3 w1 (fun x h => hx x (by simp at h; subst h; simp [h2]))⟩

theorem dist_spec (w : World) (A : Option Addr) (c : Nat) (vs : List Value) (d : Rows2) (hl : d.length ≤ 140737488351232) (hm : Mx w A vs d) (hlr : ∀ r ∈ d, r.length ≤ 140737488351232) : Calls Tryd.prog 86 #[.slice A d.length c] w fun e w' => e = .returned (.bool (distP d)) ∧ St w [] w' := by
  refine calls (args := [.slice A d.length c]) Tryd.func86 rfl Tryd.ntmps86 (Nat.le_of_ble_eq_true rfl) (St.refl w) ?_
  refine J_seq ?_
  refine J_region ?_
  refine V_asg (.n _) rfl rfl ?_   -- 0.0
  refine V_sub [(0, _), (2, _)] ⟨rfl, rfl, trivial⟩ ?_
  refine V_nil (.inl rfl) ?_
  refine E_then ?_
  refine J_seq ?_
  refine J_region ?_
  refine V_mov (.n _) rfl rfl ?_   -- 1.0
  refine V_len (.n _) Tryd.underlying45 rfl rfl ?_   -- 1.1
  refine V_asg (.n _) rfl rfl ?_   -- 1.2
  refine V_sub [(0, _), (2, _), (3, _)] ⟨rfl, rfl, rfl, trivial⟩ ?_
  refine V_nil (.inl rfl) ?_
  refine E_then ?_
  refine J_seq ?_
  refine J_seq ?_
  refine J_region ?_
  refine V_mov (.n _) rfl rfl ?_   -- 2.0
  refine V_lss (.n _) rfl rfl rfl ?_   -- 2.1
  refine V_mov (.n _) rfl rfl ?_   -- 2.2
  refine V_split 12 rfl (fun h1 => ?_) (fun h1 => ?_)   -- guard 2.2
  · skip
    refine V_pass (.n .p) (2, false) rfl rfl ?_   -- 2.3
    refine V_pass (.n .p) (2, false) rfl rfl ?_   -- 2.4
    refine V_pickT (.n _) rfl rfl rfl ?_   -- 2.5
    refine V_sub [(0, _), (2, _), (3, _), (15, _)] ⟨rfl, rfl, rfl, rfl, trivial⟩ ?_
    refine V_nil (.inl rfl) ?_
    refine E_then ?_
    refine J_condT rfl ?_
    refine J_seq ?_
    refine J_region ?_
    refine V_asg (.n _) rfl rfl ?_   -- 3.0
    refine V_sub [(0, _), (2, _), (3, _), (15, _)] ⟨rfl, rfl, rfl, rfl, trivial⟩ ?_
    refine V_nil (.inl rfl) ?_
    refine E_then ?_
    refine J_ret ?_
    refine E_then_ret ?_
    -- return R0
    refine E_ret1 Tryd.results86 rfl (fun w hw => ?_)
    first | exact dret_no (dp_size (by omega)) hw | exact dret_no (dp_rowb (k := k) (by omega) (by assumption)) hw | exact dret_no (dp_rowl (k := k) (by omega) (by assumption)) hw | exact dret_no (dp_rowc (k := k) (by omega) (by assumption)) hw | exact dret_no (dp_sym (i := i) (j := j) (by omega) (by omega) (by assumption)) hw | exact dret_no (dp_zero (i := i) (j := j) (by omega) (by omega) (by assumption)) hw | exact dret_no (dp_zero (i := i) (j := i) (by omega) rfl (by assumption)) hw | exact dret_yes (dp_make (i := i) (by omega) (by omega) hrw (by omega) hi2) hw | exact dret_yes (dp_make2 (i := i) (by omega) (by omega) hrw (by omega) hi2) hw
  · skip
    refine V_go (2, false) rfl ?_
    refine V_mov (.n _) rfl rfl ?_   -- 2.3
    refine V_go (2, false) rfl ?_
    refine V_gtr (.n _) rfl rfl rfl ?_   -- 2.4
    refine V_pickF (.n _) rfl rfl rfl ?_   -- 2.5
    refine V_sub [(0, _), (2, _), (3, _), (15, _)] ⟨rfl, rfl, rfl, rfl, trivial⟩ ?_
    refine V_nil (.inl rfl) ?_
    refine E_then ?_
    refine J_cond rfl (fun h2 => ?_) (fun h2 => ?_)   -- C0
    · skip
      refine J_seq ?_
      refine J_region ?_
      refine V_asg (.n _) rfl rfl ?_   -- 3.0
      refine V_sub [(0, _), (2, _), (3, _), (15, _)] ⟨rfl, rfl, rfl, rfl, trivial⟩ ?_
      refine V_nil (.inl rfl) ?_
      refine E_then ?_
      refine J_ret ?_
      refine E_then_ret ?_
      -- return R1
      refine E_ret1 Tryd.results86 rfl (fun w hw => ?_)
      first | exact dret_no (dp_size (by omega)) hw | exact dret_no (dp_rowb (k := k) (by omega) (by assumption)) hw | exact dret_no (dp_rowl (k := k) (by omega) (by assumption)) hw | exact dret_no (dp_rowc (k := k) (by omega) (by assumption)) hw | exact dret_no (dp_sym (i := i) (j := j) (by omega) (by omega) (by assumption)) hw | exact dret_no (dp_zero (i := i) (j := j) (by omega) (by omega) (by assumption)) hw | exact dret_no (dp_zero (i := i) (j := i) (by omega) rfl (by assumption)) hw | exact dret_yes (dp_make (i := i) (by omega) (by omega) hrw (by omega) hi2) hw | exact dret_yes (dp_make2 (i := i) (by omega) (by omega) hrw (by omega) hi2) hw
    · skip
      refine J_skip ?_
      refine E_then ?_
      refine J_seq ?_
      refine J_seq ?_
      refine J_region ?_
      refine V_mov (.n _) rfl rfl ?_   -- 4.0
      refine V_len (.n _) Tryd.underlying45 rfl rfl ?_   -- 4.1
      refine V_mov (.n _) rfl rfl ?_   -- 4.2
      refine V_sub [(0, _), (2, _), (3, _), (15, _), (16, _), (17, _), (18, _)] ⟨rfl, rfl, rfl, rfl, rfl, rfl, rfl, trivial⟩ ?_
      refine V_nil (.inl rfl) ?_
      refine E_then ?_
      refine J_block ?_
      -- loop L0
      refine J_loop (X := Nat) (fun k => [(0, (.slice A d.length c)), (3, (.int .i64 ((d.length : Nat) : Int))), (16, (.slice A d.length c)), (17, (.int .i64 ((d.length : Nat) : Int))), (18, .int .i64 (k : Nat))]) (fun k => []) (fun k => k ≤ d.length ∧ ∀ j, j < k → costsB (d.getD j []) d.length = true) (fun k => d.length - k) (0) (by refine ⟨?_, ?_, ?_, ?_, ?_, trivial⟩ <;> first | rfl | exact int_eq (by omega)) (fun w h => h) ?_ ?_
      · exact ⟨by omega, fun j hj => by omega⟩
      · rintro k ⟨hk, hk2⟩
        refine J_seq ?_
        refine J_region ?_
        refine V_lss (.n _) rfl rfl rfl ?_   -- 5.0
        refine V_sub [(0, _), (3, _), (16, _), (17, _), (18, _), (19, _)] ⟨rfl, rfl, rfl, rfl, rfl, rfl, trivial⟩ ?_
        refine V_nil (.inl rfl) ?_
        refine E_then ?_
        refine J_seq ?_
        refine J_cond rfl (fun h3 => ?_) (fun h3 => ?_)   -- C1
        · skip
          refine J_skip ?_
          refine E_then ?_
          refine J_seq ?_
          refine J_block ?_
          refine J_seq ?_
          refine J_region ?_
          first | refine V_ix (.n _) Tryd.underlying45 Tryd.sizeOf34 rfl rfl (by omega) (by omega) rfl ?_ | refine V_ixz (.n _) Tryd.underlying45 Tryd.sizeOf34 rfl rfl (hm.rd.pl (by rw [hm.len]; omega)) (by omega) (by omega) rfl ?_ | refine V_ixz (.n _) Tryd.underlying45 Tryd.sizeOf34 rfl rfl (hrri.pl (by simp)) (by omega) (by omega) rfl ?_ | refine V_ixz (.n _) Tryd.underlying45 Tryd.sizeOf34 rfl rfl (hrrj.pl (by simp)) (by omega) (by omega) rfl ?_   -- 6.0
          obtain ⟨Ai, ci, hrow, hrr⟩ := hm.get (i := k) (by omega)
          refine V_ldz (.n _) Tryd.isAgg34 rfl hm.rd hrow rfl ?_   -- 6.1
          refine V_asg (.n _) rfl rfl ?_   -- 6.2
          refine V_sub [(0, _), (3, _), (5, _), (16, _), (17, _), (18, _), (19, _)] ⟨rfl, rfl, rfl, rfl, rfl, rfl, rfl, trivial⟩ ?_
          refine V_nil (.inl rfl) ?_
          refine E_then ?_
          refine J_seq ?_
          refine J_region ?_
          refine V_mov (.n _) rfl rfl ?_   -- 7.0
          refine V_mov (.n _) rfl rfl ?_   -- 7.1
          refine V_call0 (.n _) Tryd.call108 (.cons rfl (.cons rfl .nil)) (fun w1 hw1 => costs_spec w1 Ai ci (d.getD k []) d.length (hlr _ (getD_mem (by omega))) (hrr.keep hw1)) rfl trivial ?_   -- 7.2
          refine V_notB (.n _) rfl rfl ?_   -- 7.3
          refine V_sub [(0, _), (3, _), (5, _), (16, _), (17, _), (18, _), (19, _), (25, _)] ⟨rfl, rfl, rfl, rfl, rfl, rfl, rfl, rfl, trivial⟩ ?_
          refine V_nil (.inl rfl) ?_
          refine E_then ?_
          refine J_condB rfl (fun h4 => ?_) (fun h4 => ?_)   -- C2
          · skip
            refine J_seq ?_
            refine J_region ?_
            refine V_asg (.n _) rfl rfl ?_   -- 8.0
            refine V_sub [(0, _), (2, _), (3, _), (5, _), (16, _), (17, _), (18, _), (19, _), (25, _)] ⟨rfl, rfl, rfl, rfl, rfl, rfl, rfl, rfl, rfl, trivial⟩ ?_
            refine V_nil (.inl rfl) ?_
            refine E_then ?_
            refine J_ret ?_
            refine E_blk_ret ?_
            refine E_then_ret ?_
            refine E_lp_ret ?_
            refine E_blk_ret ?_
            refine E_then_ret ?_
            -- return R2
            refine E_ret1 Tryd.results86 rfl (fun w hw => ?_)
            first | exact dret_no (dp_size (by omega)) hw | exact dret_no (dp_rowb (k := k) (by omega) (by assumption)) hw | exact dret_no (dp_rowl (k := k) (by omega) (by assumption)) hw | exact dret_no (dp_rowc (k := k) (by omega) (by assumption)) hw | exact dret_no (dp_sym (i := i) (j := j) (by omega) (by omega) (by assumption)) hw | exact dret_no (dp_zero (i := i) (j := j) (by omega) (by omega) (by assumption)) hw | exact dret_no (dp_zero (i := i) (j := i) (by omega) rfl (by assumption)) hw | exact dret_yes (dp_make (i := i) (by omega) (by omega) hrw (by omega) hi2) hw | exact dret_yes (dp_make2 (i := i) (by omega) (by omega) hrw (by omega) hi2) hw
          · skip
            refine J_skip ?_
            refine E_blk ?_
            refine E_then ?_
            refine J_region ?_
            refine V_add (.n _) rfl rfl (wrap_ok (by omega)) rfl ?_   -- 9.0
            refine V_mov (.n _) rfl rfl ?_   -- 9.1
            refine V_sub [(0, _), (3, _), (5, _), (16, _), (17, _), (18, _), (19, _), (25, _)] ⟨rfl, rfl, rfl, rfl, rfl, rfl, rfl, rfl, trivial⟩ ?_
            refine V_nil (.inl rfl) ?_
            -- again L0 0
            refine E_again (k + 1) ?_ ?_ ?_ (fun w h => h)
            · omega
            · refine ⟨by omega, fun j hj => ?_⟩
              by_cases e : j = k
              · subst e; first | assumption | simp_all
              · exact hk2 j (by omega)
            · refine ⟨?_, ?_, ?_, ?_, ?_, trivial⟩ <;> first | rfl | exact int_eq (by omega) | exact int_eq (by dsimp only; omega)
        · skip
          refine J_exit ?_
          refine E_then_exit ?_
          refine E_lp_exit ?_
          refine E_blk_hit ?_
          refine E_then ?_
          refine J_seq ?_
          refine J_seq ?_
          refine J_region ?_
          refine V_mov (.n _) rfl rfl ?_   -- 10.0
          refine V_mov (.n _) rfl rfl ?_   -- 10.1
          refine V_sub [(0, _), (3, _), (16, _), (17, _), (18, _), (19, _), (27, _), (28, _)] ⟨rfl, rfl, rfl, rfl, rfl, rfl, rfl, rfl, trivial⟩ ?_
          refine V_nil (.inl rfl) ?_
          refine E_then ?_
          refine J_block ?_
          -- loop L1
          have hrw : ∀ j, j < d.length → costsB (d.getD j []) d.length = true := fun j hj => hk2 j (by omega)
          clear hk2 hk
          refine J_loop (X := Nat) (fun i => [(0, (.slice A d.length c)), (3, (.int .i64 ((d.length : Nat) : Int))), (27, (.int .i64 ((d.length : Nat) : Int))), (28, .int .i64 (i : Nat))]) (fun i => []) (fun i => i ≤ d.length ∧ ∀ a b, a < i → b < d.length → cst d a b = cst d b a ∧ (a = b → cst d a b = 0)) (fun i => d.length - i) (0) (by refine ⟨?_, ?_, ?_, ?_, trivial⟩ <;> first | rfl | exact int_eq (by omega)) (fun w h => h) ?_ ?_
          · exact ⟨by omega, fun a b ha => by omega⟩
          · rintro i ⟨hi, hi2⟩
            refine J_seq ?_
            refine J_region ?_
            refine V_lss (.n _) rfl rfl rfl ?_   -- 11.0
            refine V_sub [(0, _), (3, _), (27, _), (28, _), (29, _)] ⟨rfl, rfl, rfl, rfl, rfl, trivial⟩ ?_
            refine V_nil (.inl rfl) ?_
            refine E_then ?_
            refine J_seq ?_
            refine J_cond rfl (fun h5 => ?_) (fun h5 => ?_)   -- C3
            · skip
              refine J_skip ?_
              refine E_then ?_
              refine J_seq ?_
              refine J_block ?_
              refine J_seq ?_
              refine J_region ?_
              refine V_mov (.n _) rfl rfl ?_   -- 12.0
              refine V_asg (.n _) rfl rfl ?_   -- 12.1
              refine V_sub [(0, _), (3, _), (6, _), (27, _), (28, _), (29, _)] ⟨rfl, rfl, rfl, rfl, rfl, rfl, trivial⟩ ?_
              refine V_nil (.inl rfl) ?_
              refine E_then ?_
              refine J_seq ?_
              refine J_region ?_
              refine V_mov (.n _) rfl rfl ?_   -- 13.0
              refine V_mov (.n _) rfl rfl ?_   -- 13.1
              refine V_sub [(0, _), (3, _), (6, _), (27, _), (28, _), (29, _), (31, _), (32, _)] ⟨rfl, rfl, rfl, rfl, rfl, rfl, rfl, rfl, trivial⟩ ?_
              refine V_nil (.inl rfl) ?_
              refine E_then ?_
              refine J_block ?_
              -- loop L2
              refine J_loop (X := Nat) (fun j => [(0, (.slice A d.length c)), (3, (.int .i64 ((d.length : Nat) : Int))), (6, .int .i64 (i : Nat)), (27, (.int .i64 ((d.length : Nat) : Int))), (28, .int .i64 (i : Nat)), (31, (.int .i64 ((d.length : Nat) : Int))), (32, .int .i64 (j : Nat))]) (fun j => []) (fun j => j ≤ d.length ∧ ∀ b, b < j → cst d i b = cst d b i ∧ (i = b → cst d i b = 0)) (fun j => d.length - j) (0) (by refine ⟨?_, ?_, ?_, ?_, ?_, ?_, ?_, trivial⟩ <;> first | rfl | exact int_eq (by omega)) (fun w h => h) ?_ ?_
              · exact ⟨by omega, fun b hb => by omega⟩
              · rintro j ⟨hj, hj2⟩
                refine J_seq ?_
                refine J_region ?_
                refine V_lss (.n _) rfl rfl rfl ?_   -- 14.0
                refine V_sub [(0, _), (3, _), (6, _), (27, _), (28, _), (31, _), (32, _), (33, _)] ⟨rfl, rfl, rfl, rfl, rfl, rfl, rfl, rfl, trivial⟩ ?_
                refine V_nil (.inl rfl) ?_
                refine E_then ?_
                refine J_seq ?_
                refine J_cond rfl (fun h6 => ?_) (fun h6 => ?_)   -- C4
                · skip
                  refine J_skip ?_
                  refine E_then ?_
                  refine J_seq ?_
                  refine J_block ?_
                  refine J_seq ?_
                  refine J_region ?_
                  refine V_mov (.n _) rfl rfl ?_   -- 15.0
                  refine V_asg (.n _) rfl rfl ?_   -- 15.1
                  refine V_sub [(0, _), (3, _), (6, _), (7, _), (27, _), (28, _), (31, _), (32, _), (33, _)] ⟨rfl, rfl, rfl, rfl, rfl, rfl, rfl, rfl, rfl, trivial⟩ ?_
                  refine V_nil (.inl rfl) ?_
                  refine E_then ?_
                  refine J_seq ?_
                  refine J_draw (Gs := _) (cl := [.p, .p, .p, .r, .p, .p, .r, .p, .p, .p, .r, .p, .p, .r, .p, .p, .p, .p, .p, .p, .p, .p, .p, .r, .p, .p, .r, .p, .p, .p]) (by kernel_rfl) (fun _ _ h => h) ?_
                  refine V_mov (.s _ _ _) rfl rfl ?_   -- 16.0
                  refine V_mov (.s _ _ _) rfl rfl ?_   -- 16.1
                  first | refine V_ix (.s _ _ _) Tryd.underlying45 Tryd.sizeOf34 rfl rfl (by omega) (by omega) rfl ?_ | refine V_ixz (.s _ _ _) Tryd.underlying45 Tryd.sizeOf34 rfl rfl (hm.rd.pl (by rw [hm.len]; omega)) (by omega) (by omega) rfl ?_ | refine V_ixz (.s _ _ _) Tryd.underlying45 Tryd.sizeOf34 rfl rfl (hrri.pl (by simp)) (by omega) (by omega) rfl ?_ | refine V_ixz (.s _ _ _) Tryd.underlying45 Tryd.sizeOf34 rfl rfl (hrrj.pl (by simp)) (by omega) (by omega) rfl ?_   -- 16.2
                  have hri := rows_len hrw (show i < d.length by omega)
                  have hrj := rows_len hrw (show j < d.length by omega)
                  obtain ⟨Ai, ci, hrowi, hrri⟩ := hm.get (i := i) (by omega)
                  obtain ⟨Aj, cj, hrowj, hrrj⟩ := hm.get (i := j) (by omega)
                  refine V_ldz (.s _ _ _) Tryd.isAgg34 rfl hm.rd hrowi rfl ?_   -- 16.3
                  refine V_mov (.s _ _ _) rfl rfl ?_   -- 16.4
                  first | refine V_ix (.s _ _ _) Tryd.underlying34 Tryd.sizeOf3 rfl rfl (by omega) (by omega) rfl ?_ | refine V_ixz (.s _ _ _) Tryd.underlying34 Tryd.sizeOf3 rfl rfl (hm.rd.pl (by rw [hm.len]; omega)) (by omega) (by omega) rfl ?_ | refine V_ixz (.s _ _ _) Tryd.underlying34 Tryd.sizeOf3 rfl rfl (hrri.pl (by simp)) (by omega) (by omega) rfl ?_ | refine V_ixz (.s _ _ _) Tryd.underlying34 Tryd.sizeOf3 rfl rfl (hrrj.pl (by simp)) (by omega) (by omega) rfl ?_   -- 16.5
                  refine V_ldz (.s _ _ _) Tryd.isAgg3 rfl hrri (I_getN (i := j) (by omega)) rfl ?_   -- 16.6
                  refine V_mov (.s _ _ _) rfl rfl ?_   -- 16.7
                  refine V_mov (.s _ _ _) rfl rfl ?_   -- 16.8
                  first | refine V_ix (.s _ _ _) Tryd.underlying45 Tryd.sizeOf34 rfl rfl (by omega) (by omega) rfl ?_ | refine V_ixz (.s _ _ _) Tryd.underlying45 Tryd.sizeOf34 rfl rfl (hm.rd.pl (by rw [hm.len]; omega)) (by omega) (by omega) rfl ?_ | refine V_ixz (.s _ _ _) Tryd.underlying45 Tryd.sizeOf34 rfl rfl (hrri.pl (by simp)) (by omega) (by omega) rfl ?_ | refine V_ixz (.s _ _ _) Tryd.underlying45 Tryd.sizeOf34 rfl rfl (hrrj.pl (by simp)) (by omega) (by omega) rfl ?_   -- 16.9
                  refine V_ldz (.s _ _ _) Tryd.isAgg34 rfl hm.rd hrowj rfl ?_   -- 16.10
                  refine V_mov (.s _ _ _) rfl rfl ?_   -- 16.11
                  first | refine V_ix (.s _ _ _) Tryd.underlying34 Tryd.sizeOf3 rfl rfl (by omega) (by omega) rfl ?_ | refine V_ixz (.s _ _ _) Tryd.underlying34 Tryd.sizeOf3 rfl rfl (hm.rd.pl (by rw [hm.len]; omega)) (by omega) (by omega) rfl ?_ | refine V_ixz (.s _ _ _) Tryd.underlying34 Tryd.sizeOf3 rfl rfl (hrri.pl (by simp)) (by omega) (by omega) rfl ?_ | refine V_ixz (.s _ _ _) Tryd.underlying34 Tryd.sizeOf3 rfl rfl (hrrj.pl (by simp)) (by omega) (by omega) rfl ?_   -- 16.12
                  refine V_ldz (.s _ _ _) Tryd.isAgg3 rfl hrrj (I_getN (i := i) (by omega)) rfl ?_   -- 16.13
                  refine V_neq (.s _ _ _) rfl rfl rfl ?_   -- 16.14
                  refine V_mov (.s _ _ _) rfl rfl ?_   -- 16.15
                  refine V_split 50 rfl (fun h7 => ?_) (fun h7 => ?_)   -- guard 16.15
                  · skip
                    refine V_pass (.s _ _ _) (15, false) rfl rfl ?_   -- 16.16
                    refine V_pass (.s _ _ _) (15, false) rfl rfl ?_   -- 16.17
                    refine V_pass (.s _ _ _) (15, false) rfl rfl ?_   -- 16.18
                    refine V_pass (.s _ _ _) (15, false) rfl rfl ?_   -- 16.19
                    refine V_pass (.s _ _ _) (19, true) rfl rfl ?_   -- 16.20
                    refine V_pass (.s _ _ _) (19, true) rfl rfl ?_   -- 16.21
                    refine V_pass (.s _ _ _) (19, true) rfl rfl ?_   -- 16.22
                    refine V_pass (.s _ _ _) (19, true) rfl rfl ?_   -- 16.23
                    refine V_pass (.s _ _ _) (19, true) rfl rfl ?_   -- 16.24
                    refine V_pass (.s _ _ _) (19, true) rfl rfl ?_   -- 16.25
                    refine V_pass (.s _ _ _) (19, true) rfl rfl ?_   -- 16.26
                    refine V_pass (.s _ _ _) (19, true) rfl rfl ?_   -- 16.27
                    refine V_pass (.s _ _ _) (15, false) rfl rfl ?_   -- 16.28
                    refine V_pickT (.s _ _ _) rfl rfl rfl ?_   -- 16.29
                    refine V_sub [(0, _), (3, _), (6, _), (7, _), (27, _), (28, _), (31, _), (32, _), (33, _), (64, _)] ⟨rfl, rfl, rfl, rfl, rfl, rfl, rfl, rfl, rfl, rfl, trivial⟩ ?_
                    refine V_nil (.inr ⟨_, rfl⟩) ?_
                    refine E_then ?_
                    refine J_condT rfl ?_
                    refine J_seq ?_
                    refine J_region ?_
                    refine V_asg (.n _) rfl rfl ?_   -- 17.0
                    refine V_sub [(0, _), (2, _), (3, _), (6, _), (7, _), (27, _), (28, _), (31, _), (32, _), (33, _), (64, _)] ⟨rfl, rfl, rfl, rfl, rfl, rfl, rfl, rfl, rfl, rfl, rfl, trivial⟩ ?_
                    refine V_nil (.inl rfl) ?_
                    refine E_then ?_
                    refine J_ret ?_
                    refine E_blk_ret ?_
                    refine E_then_ret ?_
                    refine E_lp_ret ?_
                    refine E_blk_ret ?_
                    refine E_blk_ret ?_
                    refine E_then_ret ?_
                    refine E_lp_ret ?_
                    refine E_blk_ret ?_
                    refine E_then_ret ?_
                    -- return R3
                    refine E_ret1 Tryd.results86 rfl (fun w hw => ?_)
                    first | exact dret_no (dp_size (by omega)) hw | exact dret_no (dp_rowb (k := k) (by omega) (by assumption)) hw | exact dret_no (dp_rowl (k := k) (by omega) (by assumption)) hw | exact dret_no (dp_rowc (k := k) (by omega) (by assumption)) hw | exact dret_no (dp_sym (i := i) (j := j) (by omega) (by omega) (by assumption)) hw | exact dret_no (dp_zero (i := i) (j := j) (by omega) (by omega) (by assumption)) hw | exact dret_no (dp_zero (i := i) (j := i) (by omega) rfl (by assumption)) hw | exact dret_yes (dp_make (i := i) (by omega) (by omega) hrw (by omega) hi2) hw | exact dret_yes (dp_make2 (i := i) (by omega) (by omega) hrw (by omega) hi2) hw
                  · skip
                    refine V_go (15, false) rfl ?_
                    refine V_mov (.s _ _ _) rfl rfl ?_   -- 16.16
                    refine V_go (15, false) rfl ?_
                    refine V_mov (.s _ _ _) rfl rfl ?_   -- 16.17
                    refine V_go (15, false) rfl ?_
                    refine V_eql (.s _ _ _) rfl rfl rfl ?_   -- 16.18
                    refine V_go (15, false) rfl ?_
                    refine V_mov (.s _ _ _) rfl rfl ?_   -- 16.19
                    refine V_split 54 rfl (fun h8 => ?_) (fun h8 => ?_)   -- guard 16.19
                    · skip
                      refine V_go (19, true) rfl ?_
                      refine V_mov (.s _ _ _) rfl rfl ?_   -- 16.20
                      refine V_go (19, true) rfl ?_
                      refine V_mov (.s _ _ _) rfl rfl ?_   -- 16.21
                      refine V_go (19, true) rfl ?_
                      first | refine V_ix (.s _ _ _) Tryd.underlying45 Tryd.sizeOf34 rfl rfl (by omega) (by omega) rfl ?_ | refine V_ixz (.s _ _ _) Tryd.underlying45 Tryd.sizeOf34 rfl rfl (hm.rd.pl (by rw [hm.len]; omega)) (by omega) (by omega) rfl ?_ | refine V_ixz (.s _ _ _) Tryd.underlying45 Tryd.sizeOf34 rfl rfl (hrri.pl (by simp)) (by omega) (by omega) rfl ?_ | refine V_ixz (.s _ _ _) Tryd.underlying45 Tryd.sizeOf34 rfl rfl (hrrj.pl (by simp)) (by omega) (by omega) rfl ?_   -- 16.22
                      refine V_go (19, true) rfl ?_
                      refine V_ldz (.s _ _ _) Tryd.isAgg34 rfl hm.rd hrowi rfl ?_   -- 16.23
                      refine V_go (19, true) rfl ?_
                      refine V_mov (.s _ _ _) rfl rfl ?_   -- 16.24
                      refine V_go (19, true) rfl ?_
                      first | refine V_ix (.s _ _ _) Tryd.underlying34 Tryd.sizeOf3 rfl rfl (by omega) (by omega) rfl ?_ | refine V_ixz (.s _ _ _) Tryd.underlying34 Tryd.sizeOf3 rfl rfl (hm.rd.pl (by rw [hm.len]; omega)) (by omega) (by omega) rfl ?_ | refine V_ixz (.s _ _ _) Tryd.underlying34 Tryd.sizeOf3 rfl rfl (hrri.pl (by simp)) (by omega) (by omega) rfl ?_ | refine V_ixz (.s _ _ _) Tryd.underlying34 Tryd.sizeOf3 rfl rfl (hrrj.pl (by simp)) (by omega) (by omega) rfl ?_   -- 16.25
                      refine V_go (19, true) rfl ?_
                      refine V_ldz (.s _ _ _) Tryd.isAgg3 rfl hrri (I_getN (i := j) (by omega)) rfl ?_   -- 16.26
                      refine V_go (19, true) rfl ?_
                      refine V_neq (.s _ _ _) rfl rfl rfl ?_   -- 16.27
                      refine V_go (15, false) rfl ?_
                      refine V_pickT (.s _ _ _) rfl rfl rfl ?_   -- 16.28
                      refine V_pickF (.s _ _ _) rfl rfl rfl ?_   -- 16.29
                      refine V_sub [(0, _), (3, _), (6, _), (7, _), (27, _), (28, _), (31, _), (32, _), (33, _), (64, _)] ⟨rfl, rfl, rfl, rfl, rfl, rfl, rfl, rfl, rfl, rfl, trivial⟩ ?_
                      refine V_nil (.inr ⟨_, rfl⟩) ?_
                      refine E_then ?_
                      refine J_cond rfl (fun h9 => ?_) (fun h9 => ?_)   -- C5
                      · skip
                        refine J_seq ?_
                        refine J_region ?_
                        refine V_asg (.n _) rfl rfl ?_   -- 17.0
                        refine V_sub [(0, _), (2, _), (3, _), (6, _), (7, _), (27, _), (28, _), (31, _), (32, _), (33, _), (64, _)] ⟨rfl, rfl, rfl, rfl, rfl, rfl, rfl, rfl, rfl, rfl, rfl, trivial⟩ ?_
                        refine V_nil (.inl rfl) ?_
                        refine E_then ?_
                        refine J_ret ?_
                        refine E_blk_ret ?_
                        refine E_then_ret ?_
                        refine E_lp_ret ?_
                        refine E_blk_ret ?_
                        refine E_blk_ret ?_
                        refine E_then_ret ?_
                        refine E_lp_ret ?_
                        refine E_blk_ret ?_
                        refine E_then_ret ?_
                        -- return R4
                        refine E_ret1 Tryd.results86 rfl (fun w hw => ?_)
                        first | exact dret_no (dp_size (by omega)) hw | exact dret_no (dp_rowb (k := k) (by omega) (by assumption)) hw | exact dret_no (dp_rowl (k := k) (by omega) (by assumption)) hw | exact dret_no (dp_rowc (k := k) (by omega) (by assumption)) hw | exact dret_no (dp_sym (i := i) (j := j) (by omega) (by omega) (by assumption)) hw | exact dret_no (dp_zero (i := i) (j := j) (by omega) (by omega) (by assumption)) hw | exact dret_no (dp_zero (i := i) (j := i) (by omega) rfl (by assumption)) hw | exact dret_yes (dp_make (i := i) (by omega) (by omega) hrw (by omega) hi2) hw | exact dret_yes (dp_make2 (i := i) (by omega) (by omega) hrw (by omega) hi2) hw
                      · skip
                        refine J_skip ?_
                        refine E_blk ?_
                        refine E_then ?_
                        refine J_region ?_
                        refine V_add (.n _) rfl rfl (wrap_ok (by omega)) rfl ?_   -- 18.0
                        refine V_mov (.n _) rfl rfl ?_   -- 18.1
                        refine V_sub [(0, _), (3, _), (6, _), (7, _), (27, _), (28, _), (31, _), (32, _), (33, _), (64, _)] ⟨rfl, rfl, rfl, rfl, rfl, rfl, rfl, rfl, rfl, rfl, trivial⟩ ?_
                        refine V_nil (.inl rfl) ?_
                        -- again L2 0
                        have hgood := dp_good (d := d) (i := i) (j := j) (by omega) (fun e => by omega)
                        refine E_again (j + 1) ?_ ?_ ?_ (fun w h => h)
                        · omega
                        · refine ⟨by omega, fun b hb => ?_⟩
                          by_cases e : b = j
                          · subst e; exact hgood
                          · exact hj2 b (by omega)
                        · refine ⟨?_, ?_, ?_, ?_, ?_, ?_, ?_, trivial⟩ <;> first | rfl | exact int_eq (by omega) | exact int_eq (by dsimp only; omega)
                    · skip
                      refine V_pass (.s _ _ _) (19, true) rfl rfl ?_   -- 16.20
                      refine V_pass (.s _ _ _) (19, true) rfl rfl ?_   -- 16.21
                      refine V_pass (.s _ _ _) (19, true) rfl rfl ?_   -- 16.22
                      refine V_pass (.s _ _ _) (19, true) rfl rfl ?_   -- 16.23
                      refine V_pass (.s _ _ _) (19, true) rfl rfl ?_   -- 16.24
                      refine V_pass (.s _ _ _) (19, true) rfl rfl ?_   -- 16.25
                      refine V_pass (.s _ _ _) (19, true) rfl rfl ?_   -- 16.26
                      refine V_pass (.s _ _ _) (19, true) rfl rfl ?_   -- 16.27
                      refine V_go (15, false) rfl ?_
                      refine V_pickF (.s _ _ _) rfl rfl rfl ?_   -- 16.28
                      refine V_pickF (.s _ _ _) rfl rfl rfl ?_   -- 16.29
                      refine V_sub [(0, _), (3, _), (6, _), (7, _), (27, _), (28, _), (31, _), (32, _), (33, _), (64, _)] ⟨rfl, rfl, rfl, rfl, rfl, rfl, rfl, rfl, rfl, rfl, trivial⟩ ?_
                      refine V_nil (.inr ⟨_, rfl⟩) ?_
                      refine E_then ?_
                      refine J_condF rfl ?_
                      refine J_skip ?_
                      refine E_blk ?_
                      refine E_then ?_
                      refine J_region ?_
                      refine V_add (.n _) rfl rfl (wrap_ok (by omega)) rfl ?_   -- 18.0
                      refine V_mov (.n _) rfl rfl ?_   -- 18.1
                      refine V_sub [(0, _), (3, _), (6, _), (7, _), (27, _), (28, _), (31, _), (32, _), (33, _), (64, _)] ⟨rfl, rfl, rfl, rfl, rfl, rfl, rfl, rfl, rfl, rfl, trivial⟩ ?_
                      refine V_nil (.inl rfl) ?_
                      -- again L2 1
                      have hgood := dp_good (d := d) (i := i) (j := j) (by omega) (fun e => by omega)
                      refine E_again (j + 1) ?_ ?_ ?_ (fun w h => h)
                      · omega
                      · refine ⟨by omega, fun b hb => ?_⟩
                        by_cases e : b = j
                        · subst e; exact hgood
                        · exact hj2 b (by omega)
                      · refine ⟨?_, ?_, ?_, ?_, ?_, ?_, ?_, trivial⟩ <;> first | rfl | exact int_eq (by omega) | exact int_eq (by dsimp only; omega)
                · skip
                  refine J_exit ?_
                  refine E_then_exit ?_
                  refine E_lp_exit ?_
                  refine E_blk_hit ?_
                  refine E_blk ?_
                  refine E_then ?_
                  refine J_region ?_
                  refine V_add (.n _) rfl rfl (wrap_ok (by omega)) rfl ?_   -- 19.0
                  refine V_mov (.n _) rfl rfl ?_   -- 19.1
                  refine V_sub [(0, _), (3, _), (6, _), (27, _), (28, _), (31, _), (32, _), (33, _)] ⟨rfl, rfl, rfl, rfl, rfl, rfl, rfl, rfl, trivial⟩ ?_
                  refine V_nil (.inl rfl) ?_
                  -- again L1 0
                  refine E_again (i + 1) ?_ ?_ ?_ (fun w h => h)
                  · omega
                  · refine ⟨by omega, fun a b ha hb => ?_⟩
                    by_cases e : a = i
                    · subst e; exact hj2 b (by omega)
                    · exact hi2 a b (by omega) hb
                  · refine ⟨?_, ?_, ?_, ?_, trivial⟩ <;> first | rfl | exact int_eq (by omega) | exact int_eq (by dsimp only; omega)
            · skip
              refine J_exit ?_
              refine E_then_exit ?_
              refine E_lp_exit ?_
              refine E_blk_hit ?_
              refine E_then ?_
              refine J_seq ?_
              refine J_region ?_
              refine V_asg (.n _) rfl rfl ?_   -- 20.0
              refine V_sub [(0, _), (2, _), (3, _), (27, _), (28, _), (29, _)] ⟨rfl, rfl, rfl, rfl, rfl, rfl, trivial⟩ ?_
              refine V_nil (.inl rfl) ?_
              refine E_then ?_
              refine J_ret ?_
              -- return R5
              refine E_ret1 Tryd.results86 rfl (fun w hw => ?_)
              first | exact dret_no (dp_size (by omega)) hw | exact dret_no (dp_rowb (k := k) (by omega) (by assumption)) hw | exact dret_no (dp_rowl (k := k) (by omega) (by assumption)) hw | exact dret_no (dp_rowc (k := k) (by omega) (by assumption)) hw | exact dret_no (dp_sym (i := i) (j := j) (by omega) (by omega) (by assumption)) hw | exact dret_no (dp_zero (i := i) (j := j) (by omega) (by omega) (by assumption)) hw | exact dret_no (dp_zero (i := i) (j := i) (by omega) rfl (by assumption)) hw | exact dret_yes (dp_make (i := i) (by omega) (by omega) hrw (by omega) hi2) hw | exact dret_yes (dp_make2 (i := i) (by omega) (by omega) hrw (by omega) hi2) hw

theorem rdist_spec (w : World) (A : Option Addr) (c : Nat) (vs : List Value) (d : Rows2) (hl : d.length ≤ 140737488351232) (hm : Mx w A vs d) (hlr : ∀ r ∈ d, r.length ≤ 140737488351232) : Calls Tryd.prog 48 #[.slice A d.length c] w fun e w' => e = .returned (.bool (distP d)) ∧ St w [] w' := by
  refine calls (args := [.slice A d.length c]) Tryd.func48 rfl Tryd.ntmps48 (Nat.le_of_ble_eq_true rfl) (St.refl w) ?_
  refine J_seq ?_
  refine J_region ?_
  refine V_asg (.n _) rfl rfl ?_   -- 0.0
  refine V_sub [(0, _), (2, _)] ⟨rfl, rfl, trivial⟩ ?_
  refine V_nil (.inl rfl) ?_
  refine E_then ?_
  refine J_seq ?_
  refine J_region ?_
  refine V_mov (.n _) rfl rfl ?_   -- 1.0
  refine V_len (.n _) Tryd.underlying45 rfl rfl ?_   -- 1.1
  refine V_asg (.n _) rfl rfl ?_   -- 1.2
  refine V_sub [(0, _), (2, _), (3, _)] ⟨rfl, rfl, rfl, trivial⟩ ?_
  refine V_nil (.inl rfl) ?_
  refine E_then ?_
  refine J_seq ?_
  refine J_seq ?_
  refine J_region ?_
  refine V_mov (.n _) rfl rfl ?_   -- 2.0
  refine V_lss (.n _) rfl rfl rfl ?_   -- 2.1
  refine V_mov (.n _) rfl rfl ?_   -- 2.2
  refine V_split 12 rfl (fun h1 => ?_) (fun h1 => ?_)   -- guard 2.2
  · skip
    refine V_pass (.n .p) (2, false) rfl rfl ?_   -- 2.3
    refine V_pass (.n .p) (2, false) rfl rfl ?_   -- 2.4
    refine V_pickT (.n _) rfl rfl rfl ?_   -- 2.5
    refine V_sub [(0, _), (2, _), (3, _), (15, _)] ⟨rfl, rfl, rfl, rfl, trivial⟩ ?_
    refine V_nil (.inl rfl) ?_
    refine E_then ?_
    refine J_condT rfl ?_
    refine J_seq ?_
    refine J_region ?_
    refine V_asg (.n _) rfl rfl ?_   -- 3.0
    refine V_sub [(0, _), (2, _), (3, _), (15, _)] ⟨rfl, rfl, rfl, rfl, trivial⟩ ?_
    refine V_nil (.inl rfl) ?_
    refine E_then ?_
    refine J_ret ?_
    refine E_then_ret ?_
    -- return R0
    refine E_ret1 Tryd.results48 rfl (fun w hw => ?_)
    first | exact dret_no (dp_size (by omega)) hw | exact dret_no (dp_rowb (k := k) (by omega) (by assumption)) hw | exact dret_no (dp_rowl (k := k) (by omega) (by assumption)) hw | exact dret_no (dp_rowc (k := k) (by omega) (by assumption)) hw | exact dret_no (dp_sym (i := i) (j := j) (by omega) (by omega) (by assumption)) hw | exact dret_no (dp_zero (i := i) (j := j) (by omega) (by omega) (by assumption)) hw | exact dret_no (dp_zero (i := i) (j := i) (by omega) rfl (by assumption)) hw | exact dret_yes (dp_make (i := i) (by omega) (by omega) hrw (by omega) hi2) hw | exact dret_yes (dp_make2 (i := i) (by omega) (by omega) hrw (by omega) hi2) hw
  · skip
    refine V_go (2, false) rfl ?_
    refine V_mov (.n _) rfl rfl ?_   -- 2.3
    refine V_go (2, false) rfl ?_
    refine V_gtr (.n _) rfl rfl rfl ?_   -- 2.4
    refine V_pickF (.n _) rfl rfl rfl ?_   -- 2.5
    refine V_sub [(0, _), (2, _), (3, _), (15, _)] ⟨rfl, rfl, rfl, rfl, trivial⟩ ?_
    refine V_nil (.inl rfl) ?_
    refine E_then ?_
    refine J_cond rfl (fun h2 => ?_) (fun h2 => ?_)   -- C0
    · skip
      refine J_seq ?_
      refine J_region ?_
      refine V_asg (.n _) rfl rfl ?_   -- 3.0
      refine V_sub [(0, _), (2, _), (3, _), (15, _)] ⟨rfl, rfl, rfl, rfl, trivial⟩ ?_
      refine V_nil (.inl rfl) ?_
      refine E_then ?_
      refine J_ret ?_
      refine E_then_ret ?_
      -- return R1
      refine E_ret1 Tryd.results48 rfl (fun w hw => ?_)
      first | exact dret_no (dp_size (by omega)) hw | exact dret_no (dp_rowb (k := k) (by omega) (by assumption)) hw | exact dret_no (dp_rowl (k := k) (by omega) (by assumption)) hw | exact dret_no (dp_rowc (k := k) (by omega) (by assumption)) hw | exact dret_no (dp_sym (i := i) (j := j) (by omega) (by omega) (by assumption)) hw | exact dret_no (dp_zero (i := i) (j := j) (by omega) (by omega) (by assumption)) hw | exact dret_no (dp_zero (i := i) (j := i) (by omega) rfl (by assumption)) hw | exact dret_yes (dp_make (i := i) (by omega) (by omega) hrw (by omega) hi2) hw | exact dret_yes (dp_make2 (i := i) (by omega) (by omega) hrw (by omega) hi2) hw
    · skip
      refine J_skip ?_
      refine E_then ?_
      refine J_seq ?_
      refine J_seq ?_
      refine J_region ?_
      refine V_mov (.n _) rfl rfl ?_   -- 4.0
      refine V_len (.n _) Tryd.underlying45 rfl rfl ?_   -- 4.1
      refine V_mov (.n _) rfl rfl ?_   -- 4.2
      refine V_sub [(0, _), (2, _), (3, _), (15, _), (16, _), (17, _), (18, _)] ⟨rfl, rfl, rfl, rfl, rfl, rfl, rfl, trivial⟩ ?_
      refine V_nil (.inl rfl) ?_
      refine E_then ?_
      refine J_block ?_
      -- loop L0
      refine J_loop (X := Nat) (fun k => [(0, (.slice A d.length c)), (3, (.int .i64 ((d.length : Nat) : Int))), (16, (.slice A d.length c)), (17, (.int .i64 ((d.length : Nat) : Int))), (18, .int .i64 (k : Nat))]) (fun k => []) (fun k => k ≤ d.length ∧ ∀ j, j < k → costsB (d.getD j []) d.length = true) (fun k => d.length - k) (0) (by refine ⟨?_, ?_, ?_, ?_, ?_, trivial⟩ <;> first | rfl | exact int_eq (by omega)) (fun w h => h) ?_ ?_
      · exact ⟨by omega, fun j hj => by omega⟩
      · rintro k ⟨hk, hk2⟩
        refine J_seq ?_
        refine J_region ?_
        refine V_lss (.n _) rfl rfl rfl ?_   -- 5.0
        refine V_sub [(0, _), (3, _), (16, _), (17, _), (18, _), (19, _)] ⟨rfl, rfl, rfl, rfl, rfl, rfl, trivial⟩ ?_
        refine V_nil (.inl rfl) ?_
        refine E_then ?_
        refine J_seq ?_
        refine J_cond rfl (fun h3 => ?_) (fun h3 => ?_)   -- C1
        · skip
          refine J_skip ?_
          refine E_then ?_
          refine J_seq ?_
          refine J_block ?_
          refine J_seq ?_
          refine J_region ?_
          first | refine V_ix (.n _) Tryd.underlying45 Tryd.sizeOf34 rfl rfl (by omega) (by omega) rfl ?_ | refine V_ixz (.n _) Tryd.underlying45 Tryd.sizeOf34 rfl rfl (hm.rd.pl (by rw [hm.len]; omega)) (by omega) (by omega) rfl ?_ | refine V_ixz (.n _) Tryd.underlying45 Tryd.sizeOf34 rfl rfl (hrri.pl (by simp)) (by omega) (by omega) rfl ?_ | refine V_ixz (.n _) Tryd.underlying45 Tryd.sizeOf34 rfl rfl (hrrj.pl (by simp)) (by omega) (by omega) rfl ?_   -- 6.0
          obtain ⟨Ai, ci, hrow, hrr⟩ := hm.get (i := k) (by omega)
          refine V_ldz (.n _) Tryd.isAgg34 rfl hm.rd hrow rfl ?_   -- 6.1
          refine V_asg (.n _) rfl rfl ?_   -- 6.2
          refine V_sub [(0, _), (3, _), (5, _), (16, _), (17, _), (18, _), (19, _)] ⟨rfl, rfl, rfl, rfl, rfl, rfl, rfl, trivial⟩ ?_
          refine V_nil (.inl rfl) ?_
          refine E_then ?_
          refine J_seq ?_
          refine J_region ?_
          refine V_mov (.n _) rfl rfl ?_   -- 7.0
          refine V_len (.n _) Tryd.underlying34 rfl rfl ?_   -- 7.1
          refine V_mov (.n _) rfl rfl ?_   -- 7.2
          refine V_neq (.n _) rfl rfl rfl ?_   -- 7.3
          refine V_mov (.n _) rfl rfl ?_   -- 7.4
          refine V_split 26 rfl (fun h4 => ?_) (fun h4 => ?_)   -- guard 7.4
          · skip
            refine V_pass (.n .p) (4, false) rfl rfl ?_   -- 7.5
            refine V_pass (.n .p) (4, false) rfl rfl ?_   -- 7.6
            refine V_pass (.n .p) (4, false) rfl rfl ?_   -- 7.7
            refine V_pickT (.n _) rfl rfl rfl ?_   -- 7.8
            refine V_sub [(0, _), (3, _), (5, _), (16, _), (17, _), (18, _), (19, _), (30, _)] ⟨rfl, rfl, rfl, rfl, rfl, rfl, rfl, rfl, trivial⟩ ?_
            refine V_nil (.inl rfl) ?_
            refine E_then ?_
            refine J_condT rfl ?_
            refine J_seq ?_
            refine J_region ?_
            refine V_asg (.n _) rfl rfl ?_   -- 8.0
            refine V_sub [(0, _), (2, _), (3, _), (5, _), (16, _), (17, _), (18, _), (19, _), (30, _)] ⟨rfl, rfl, rfl, rfl, rfl, rfl, rfl, rfl, rfl, trivial⟩ ?_
            refine V_nil (.inl rfl) ?_
            refine E_then ?_
            refine J_ret ?_
            refine E_blk_ret ?_
            refine E_then_ret ?_
            refine E_lp_ret ?_
            refine E_blk_ret ?_
            refine E_then_ret ?_
            -- return R2
            refine E_ret1 Tryd.results48 rfl (fun w hw => ?_)
            first | exact dret_no (dp_size (by omega)) hw | exact dret_no (dp_rowb (k := k) (by omega) (by assumption)) hw | exact dret_no (dp_rowl (k := k) (by omega) (by assumption)) hw | exact dret_no (dp_rowc (k := k) (by omega) (by assumption)) hw | exact dret_no (dp_sym (i := i) (j := j) (by omega) (by omega) (by assumption)) hw | exact dret_no (dp_zero (i := i) (j := j) (by omega) (by omega) (by assumption)) hw | exact dret_no (dp_zero (i := i) (j := i) (by omega) rfl (by assumption)) hw | exact dret_yes (dp_make (i := i) (by omega) (by omega) hrw (by omega) hi2) hw | exact dret_yes (dp_make2 (i := i) (by omega) (by omega) hrw (by omega) hi2) hw
          · skip
            refine V_go (4, false) rfl ?_
            refine V_mov (.n _) rfl rfl ?_   -- 7.5
            refine V_go (4, false) rfl ?_
            refine V_call0 (.n _) Tryd.call80 (.cons rfl .nil) (fun w1 hw1 => cheap_spec w1 Ai ci (d.getD k []) (hlr _ (getD_mem (by omega))) (hrr.keep hw1)) rfl trivial ?_   -- 7.6
            refine V_go (4, false) rfl ?_
            refine V_notB (.n _) rfl rfl ?_   -- 7.7
            refine V_pickF (.n _) rfl rfl rfl ?_   -- 7.8
            refine V_sub [(0, _), (3, _), (5, _), (16, _), (17, _), (18, _), (19, _), (30, _)] ⟨rfl, rfl, rfl, rfl, rfl, rfl, rfl, rfl, trivial⟩ ?_
            refine V_nil (.inl rfl) ?_
            refine E_then ?_
            refine J_condB rfl (fun h5 => ?_) (fun h5 => ?_)   -- C2
            · skip
              refine J_seq ?_
              refine J_region ?_
              refine V_asg (.n _) rfl rfl ?_   -- 8.0
              refine V_sub [(0, _), (2, _), (3, _), (5, _), (16, _), (17, _), (18, _), (19, _), (30, _)] ⟨rfl, rfl, rfl, rfl, rfl, rfl, rfl, rfl, rfl, trivial⟩ ?_
              refine V_nil (.inl rfl) ?_
              refine E_then ?_
              refine J_ret ?_
              refine E_blk_ret ?_
              refine E_then_ret ?_
              refine E_lp_ret ?_
              refine E_blk_ret ?_
              refine E_then_ret ?_
              -- return R3
              refine E_ret1 Tryd.results48 rfl (fun w hw => ?_)
              first | exact dret_no (dp_size (by omega)) hw | exact dret_no (dp_rowb (k := k) (by omega) (by assumption)) hw | exact dret_no (dp_rowl (k := k) (by omega) (by assumption)) hw | exact dret_no (dp_rowc (k := k) (by omega) (by assumption)) hw | exact dret_no (dp_sym (i := i) (j := j) (by omega) (by omega) (by assumption)) hw | exact dret_no (dp_zero (i := i) (j := j) (by omega) (by omega) (by assumption)) hw | exact dret_no (dp_zero (i := i) (j := i) (by omega) rfl (by assumption)) hw | exact dret_yes (dp_make (i := i) (by omega) (by omega) hrw (by omega) hi2) hw | exact dret_yes (dp_make2 (i := i) (by omega) (by omega) hrw (by omega) hi2) hw
            · skip
              refine J_skip ?_
              refine E_blk ?_
              refine E_then ?_
              refine J_region ?_
              refine V_add (.n _) rfl rfl (wrap_ok (by omega)) rfl ?_   -- 9.0
              refine V_mov (.n _) rfl rfl ?_   -- 9.1
              refine V_sub [(0, _), (3, _), (5, _), (16, _), (17, _), (18, _), (19, _), (30, _)] ⟨rfl, rfl, rfl, rfl, rfl, rfl, rfl, rfl, trivial⟩ ?_
              refine V_nil (.inl rfl) ?_
              -- again L0 0
              refine E_again (k + 1) ?_ ?_ ?_ (fun w h => h)
              · omega
              · refine ⟨by omega, fun j hj => ?_⟩
                by_cases e : j = k
                · subst e; exact costsB_of (by omega) (by simpa using ‹(!(d.getD j []).all okC) = false›)
                · exact hk2 j (by omega)
              · refine ⟨?_, ?_, ?_, ?_, ?_, trivial⟩ <;> first | rfl | exact int_eq (by omega) | exact int_eq (by dsimp only; omega)
        · skip
          refine J_exit ?_
          refine E_then_exit ?_
          refine E_lp_exit ?_
          refine E_blk_hit ?_
          refine E_then ?_
          refine J_seq ?_
          refine J_seq ?_
          refine J_region ?_
          refine V_mov (.n _) rfl rfl ?_   -- 10.0
          refine V_mov (.n _) rfl rfl ?_   -- 10.1
          refine V_sub [(0, _), (3, _), (16, _), (17, _), (18, _), (19, _), (32, _), (33, _)] ⟨rfl, rfl, rfl, rfl, rfl, rfl, rfl, rfl, trivial⟩ ?_
          refine V_nil (.inl rfl) ?_
          refine E_then ?_
          refine J_block ?_
          -- loop L1
          have hrw : ∀ j, j < d.length → costsB (d.getD j []) d.length = true := fun j hj => hk2 j (by omega)
          clear hk2 hk
          refine J_loop (X := Nat) (fun i => [(0, (.slice A d.length c)), (3, (.int .i64 ((d.length : Nat) : Int))), (32, (.int .i64 ((d.length : Nat) : Int))), (33, .int .i64 (i : Nat))]) (fun i => []) (fun i => i ≤ d.length ∧ ∀ a b, a < i → b < d.length → cst d a b = cst d b a ∧ cst d a a = 0) (fun i => d.length - i) (0) (by refine ⟨?_, ?_, ?_, ?_, trivial⟩ <;> first | rfl | exact int_eq (by omega)) (fun w h => h) ?_ ?_
          · exact ⟨by omega, fun a b ha => by omega⟩
          · rintro i ⟨hi, hi2⟩
            refine J_seq ?_
            refine J_region ?_
            refine V_lss (.n _) rfl rfl rfl ?_   -- 11.0
            refine V_sub [(0, _), (3, _), (32, _), (33, _), (34, _)] ⟨rfl, rfl, rfl, rfl, rfl, trivial⟩ ?_
            refine V_nil (.inl rfl) ?_
            refine E_then ?_
            refine J_seq ?_
            refine J_cond rfl (fun h6 => ?_) (fun h6 => ?_)   -- C3
            · skip
              refine J_skip ?_
              refine E_then ?_
              refine J_seq ?_
              refine J_block ?_
              refine J_seq ?_
              refine J_region ?_
              refine V_mov (.n _) rfl rfl ?_   -- 12.0
              refine V_asg (.n _) rfl rfl ?_   -- 12.1
              refine V_sub [(0, _), (3, _), (6, _), (32, _), (33, _), (34, _)] ⟨rfl, rfl, rfl, rfl, rfl, rfl, trivial⟩ ?_
              refine V_nil (.inl rfl) ?_
              refine E_then ?_
              refine J_seq ?_
              refine J_region ?_
              refine V_mov (.n _) rfl rfl ?_   -- 13.0
              refine V_mov (.n _) rfl rfl ?_   -- 13.1
              refine V_sub [(0, _), (3, _), (6, _), (32, _), (33, _), (34, _), (36, _), (37, _)] ⟨rfl, rfl, rfl, rfl, rfl, rfl, rfl, rfl, trivial⟩ ?_
              refine V_nil (.inl rfl) ?_
              refine E_then ?_
              refine J_block ?_
              -- loop L2
              refine J_loop (X := Nat) (fun j => [(0, (.slice A d.length c)), (3, (.int .i64 ((d.length : Nat) : Int))), (6, .int .i64 (i : Nat)), (32, (.int .i64 ((d.length : Nat) : Int))), (33, .int .i64 (i : Nat)), (36, (.int .i64 ((d.length : Nat) : Int))), (37, .int .i64 (j : Nat))]) (fun j => []) (fun j => j ≤ d.length ∧ ∀ b, b < j → cst d i b = cst d b i ∧ cst d i i = 0) (fun j => d.length - j) (0) (by refine ⟨?_, ?_, ?_, ?_, ?_, ?_, ?_, trivial⟩ <;> first | rfl | exact int_eq (by omega)) (fun w h => h) ?_ ?_
              · exact ⟨by omega, fun b hb => by omega⟩
              · rintro j ⟨hj, hj2⟩
                refine J_seq ?_
                refine J_region ?_
                refine V_lss (.n _) rfl rfl rfl ?_   -- 14.0
                refine V_sub [(0, _), (3, _), (6, _), (32, _), (33, _), (36, _), (37, _), (38, _)] ⟨rfl, rfl, rfl, rfl, rfl, rfl, rfl, rfl, trivial⟩ ?_
                refine V_nil (.inl rfl) ?_
                refine E_then ?_
                refine J_seq ?_
                refine J_cond rfl (fun h7 => ?_) (fun h7 => ?_)   -- C4
                · skip
                  refine J_skip ?_
                  refine E_then ?_
                  refine J_seq ?_
                  refine J_block ?_
                  refine J_seq ?_
                  refine J_region ?_
                  refine V_mov (.n _) rfl rfl ?_   -- 15.0
                  refine V_asg (.n _) rfl rfl ?_   -- 15.1
                  refine V_sub [(0, _), (3, _), (6, _), (7, _), (32, _), (33, _), (36, _), (37, _), (38, _)] ⟨rfl, rfl, rfl, rfl, rfl, rfl, rfl, rfl, rfl, trivial⟩ ?_
                  refine V_nil (.inl rfl) ?_
                  refine E_then ?_
                  refine J_seq ?_
                  refine J_draw (Gs := _) (cl := [.p, .p, .p, .r, .p, .p, .r, .p, .p, .p, .r, .p, .p, .r, .p, .p, .p, .p, .p, .r, .p, .p, .r, .p, .p]) (by kernel_rfl) (fun _ _ h => h) ?_
                  refine V_mov (.s _ _ _) rfl rfl ?_   -- 16.0
                  refine V_mov (.s _ _ _) rfl rfl ?_   -- 16.1
                  first | refine V_ix (.s _ _ _) Tryd.underlying45 Tryd.sizeOf34 rfl rfl (by omega) (by omega) rfl ?_ | refine V_ixz (.s _ _ _) Tryd.underlying45 Tryd.sizeOf34 rfl rfl (hm.rd.pl (by rw [hm.len]; omega)) (by omega) (by omega) rfl ?_ | refine V_ixz (.s _ _ _) Tryd.underlying45 Tryd.sizeOf34 rfl rfl (hrri.pl (by simp)) (by omega) (by omega) rfl ?_ | refine V_ixz (.s _ _ _) Tryd.underlying45 Tryd.sizeOf34 rfl rfl (hrrj.pl (by simp)) (by omega) (by omega) rfl ?_   -- 16.2
                  have hri := rows_len hrw (show i < d.length by omega)
                  have hrj := rows_len hrw (show j < d.length by omega)
                  obtain ⟨Ai, ci, hrowi, hrri⟩ := hm.get (i := i) (by omega)
                  obtain ⟨Aj, cj, hrowj, hrrj⟩ := hm.get (i := j) (by omega)
                  refine V_ldz (.s _ _ _) Tryd.isAgg34 rfl hm.rd hrowi rfl ?_   -- 16.3
                  refine V_mov (.s _ _ _) rfl rfl ?_   -- 16.4
                  first | refine V_ix (.s _ _ _) Tryd.underlying34 Tryd.sizeOf3 rfl rfl (by omega) (by omega) rfl ?_ | refine V_ixz (.s _ _ _) Tryd.underlying34 Tryd.sizeOf3 rfl rfl (hm.rd.pl (by rw [hm.len]; omega)) (by omega) (by omega) rfl ?_ | refine V_ixz (.s _ _ _) Tryd.underlying34 Tryd.sizeOf3 rfl rfl (hrri.pl (by simp)) (by omega) (by omega) rfl ?_ | refine V_ixz (.s _ _ _) Tryd.underlying34 Tryd.sizeOf3 rfl rfl (hrrj.pl (by simp)) (by omega) (by omega) rfl ?_   -- 16.5
                  refine V_ldz (.s _ _ _) Tryd.isAgg3 rfl hrri (I_getN (i := j) (by omega)) rfl ?_   -- 16.6
                  refine V_mov (.s _ _ _) rfl rfl ?_   -- 16.7
                  refine V_mov (.s _ _ _) rfl rfl ?_   -- 16.8
                  first | refine V_ix (.s _ _ _) Tryd.underlying45 Tryd.sizeOf34 rfl rfl (by omega) (by omega) rfl ?_ | refine V_ixz (.s _ _ _) Tryd.underlying45 Tryd.sizeOf34 rfl rfl (hm.rd.pl (by rw [hm.len]; omega)) (by omega) (by omega) rfl ?_ | refine V_ixz (.s _ _ _) Tryd.underlying45 Tryd.sizeOf34 rfl rfl (hrri.pl (by simp)) (by omega) (by omega) rfl ?_ | refine V_ixz (.s _ _ _) Tryd.underlying45 Tryd.sizeOf34 rfl rfl (hrrj.pl (by simp)) (by omega) (by omega) rfl ?_   -- 16.9
                  refine V_ldz (.s _ _ _) Tryd.isAgg34 rfl hm.rd hrowj rfl ?_   -- 16.10
                  refine V_mov (.s _ _ _) rfl rfl ?_   -- 16.11
                  first | refine V_ix (.s _ _ _) Tryd.underlying34 Tryd.sizeOf3 rfl rfl (by omega) (by omega) rfl ?_ | refine V_ixz (.s _ _ _) Tryd.underlying34 Tryd.sizeOf3 rfl rfl (hm.rd.pl (by rw [hm.len]; omega)) (by omega) (by omega) rfl ?_ | refine V_ixz (.s _ _ _) Tryd.underlying34 Tryd.sizeOf3 rfl rfl (hrri.pl (by simp)) (by omega) (by omega) rfl ?_ | refine V_ixz (.s _ _ _) Tryd.underlying34 Tryd.sizeOf3 rfl rfl (hrrj.pl (by simp)) (by omega) (by omega) rfl ?_   -- 16.12
                  refine V_ldz (.s _ _ _) Tryd.isAgg3 rfl hrrj (I_getN (i := i) (by omega)) rfl ?_   -- 16.13
                  refine V_neq (.s _ _ _) rfl rfl rfl ?_   -- 16.14
                  refine V_mov (.s _ _ _) rfl rfl ?_   -- 16.15
                  refine V_split 55 rfl (fun h8 => ?_) (fun h8 => ?_)   -- guard 16.15
                  · skip
                    refine V_pass (.s _ _ _) (15, false) rfl rfl ?_   -- 16.16
                    refine V_pass (.s _ _ _) (15, false) rfl rfl ?_   -- 16.17
                    refine V_pass (.s _ _ _) (15, false) rfl rfl ?_   -- 16.18
                    refine V_pass (.s _ _ _) (15, false) rfl rfl ?_   -- 16.19
                    refine V_pass (.s _ _ _) (15, false) rfl rfl ?_   -- 16.20
                    refine V_pass (.s _ _ _) (15, false) rfl rfl ?_   -- 16.21
                    refine V_pass (.s _ _ _) (15, false) rfl rfl ?_   -- 16.22
                    refine V_pass (.s _ _ _) (15, false) rfl rfl ?_   -- 16.23
                    refine V_pickT (.s _ _ _) rfl rfl rfl ?_   -- 16.24
                    refine V_sub [(0, _), (3, _), (6, _), (7, _), (32, _), (33, _), (36, _), (37, _), (38, _), (64, _)] ⟨rfl, rfl, rfl, rfl, rfl, rfl, rfl, rfl, rfl, rfl, trivial⟩ ?_
                    refine V_nil (.inr ⟨_, rfl⟩) ?_
                    refine E_then ?_
                    refine J_condT rfl ?_
                    refine J_seq ?_
                    refine J_region ?_
                    refine V_asg (.n _) rfl rfl ?_   -- 17.0
                    refine V_sub [(0, _), (2, _), (3, _), (6, _), (7, _), (32, _), (33, _), (36, _), (37, _), (38, _), (64, _)] ⟨rfl, rfl, rfl, rfl, rfl, rfl, rfl, rfl, rfl, rfl, rfl, trivial⟩ ?_
                    refine V_nil (.inl rfl) ?_
                    refine E_then ?_
                    refine J_ret ?_
                    refine E_blk_ret ?_
                    refine E_then_ret ?_
                    refine E_lp_ret ?_
                    refine E_blk_ret ?_
                    refine E_blk_ret ?_
                    refine E_then_ret ?_
                    refine E_lp_ret ?_
                    refine E_blk_ret ?_
                    refine E_then_ret ?_
                    -- return R4
                    refine E_ret1 Tryd.results48 rfl (fun w hw => ?_)
                    first | exact dret_no (dp_size (by omega)) hw | exact dret_no (dp_rowb (k := k) (by omega) (by assumption)) hw | exact dret_no (dp_rowl (k := k) (by omega) (by assumption)) hw | exact dret_no (dp_rowc (k := k) (by omega) (by assumption)) hw | exact dret_no (dp_sym (i := i) (j := j) (by omega) (by omega) (by assumption)) hw | exact dret_no (dp_zero (i := i) (j := j) (by omega) (by omega) (by assumption)) hw | exact dret_no (dp_zero (i := i) (j := i) (by omega) rfl (by assumption)) hw | exact dret_yes (dp_make (i := i) (by omega) (by omega) hrw (by omega) hi2) hw | exact dret_yes (dp_make2 (i := i) (by omega) (by omega) hrw (by omega) hi2) hw
                  · skip
                    refine V_go (15, false) rfl ?_
                    refine V_mov (.s _ _ _) rfl rfl ?_   -- 16.16
                    refine V_go (15, false) rfl ?_
                    refine V_mov (.s _ _ _) rfl rfl ?_   -- 16.17
                    refine V_go (15, false) rfl ?_
                    first | refine V_ix (.s _ _ _) Tryd.underlying45 Tryd.sizeOf34 rfl rfl (by omega) (by omega) rfl ?_ | refine V_ixz (.s _ _ _) Tryd.underlying45 Tryd.sizeOf34 rfl rfl (hm.rd.pl (by rw [hm.len]; omega)) (by omega) (by omega) rfl ?_ | refine V_ixz (.s _ _ _) Tryd.underlying45 Tryd.sizeOf34 rfl rfl (hrri.pl (by simp)) (by omega) (by omega) rfl ?_ | refine V_ixz (.s _ _ _) Tryd.underlying45 Tryd.sizeOf34 rfl rfl (hrrj.pl (by simp)) (by omega) (by omega) rfl ?_   -- 16.18
                    refine V_go (15, false) rfl ?_
                    refine V_ldz (.s _ _ _) Tryd.isAgg34 rfl hm.rd hrowi rfl ?_   -- 16.19
                    refine V_go (15, false) rfl ?_
                    refine V_mov (.s _ _ _) rfl rfl ?_   -- 16.20
                    refine V_go (15, false) rfl ?_
                    first | refine V_ix (.s _ _ _) Tryd.underlying34 Tryd.sizeOf3 rfl rfl (by omega) (by omega) rfl ?_ | refine V_ixz (.s _ _ _) Tryd.underlying34 Tryd.sizeOf3 rfl rfl (hm.rd.pl (by rw [hm.len]; omega)) (by omega) (by omega) rfl ?_ | refine V_ixz (.s _ _ _) Tryd.underlying34 Tryd.sizeOf3 rfl rfl (hrri.pl (by simp)) (by omega) (by omega) rfl ?_ | refine V_ixz (.s _ _ _) Tryd.underlying34 Tryd.sizeOf3 rfl rfl (hrrj.pl (by simp)) (by omega) (by omega) rfl ?_   -- 16.21
                    refine V_go (15, false) rfl ?_
                    refine V_ldz (.s _ _ _) Tryd.isAgg3 rfl hrri (I_getN (i := i) (by omega)) rfl ?_   -- 16.22
                    refine V_go (15, false) rfl ?_
                    refine V_neq (.s _ _ _) rfl rfl rfl ?_   -- 16.23
                    refine V_pickF (.s _ _ _) rfl rfl rfl ?_   -- 16.24
                    refine V_sub [(0, _), (3, _), (6, _), (7, _), (32, _), (33, _), (36, _), (37, _), (38, _), (64, _)] ⟨rfl, rfl, rfl, rfl, rfl, rfl, rfl, rfl, rfl, rfl, trivial⟩ ?_
                    refine V_nil (.inr ⟨_, rfl⟩) ?_
                    refine E_then ?_
                    refine J_cond rfl (fun h9 => ?_) (fun h9 => ?_)   -- C5
                    · skip
                      refine J_seq ?_
                      refine J_region ?_
                      refine V_asg (.n _) rfl rfl ?_   -- 17.0
                      refine V_sub [(0, _), (2, _), (3, _), (6, _), (7, _), (32, _), (33, _), (36, _), (37, _), (38, _), (64, _)] ⟨rfl, rfl, rfl, rfl, rfl, rfl, rfl, rfl, rfl, rfl, rfl, trivial⟩ ?_
                      refine V_nil (.inl rfl) ?_
                      refine E_then ?_
                      refine J_ret ?_
                      refine E_blk_ret ?_
                      refine E_then_ret ?_
                      refine E_lp_ret ?_
                      refine E_blk_ret ?_
                      refine E_blk_ret ?_
                      refine E_then_ret ?_
                      refine E_lp_ret ?_
                      refine E_blk_ret ?_
                      refine E_then_ret ?_
                      -- return R5
                      refine E_ret1 Tryd.results48 rfl (fun w hw => ?_)
                      first | exact dret_no (dp_size (by omega)) hw | exact dret_no (dp_rowb (k := k) (by omega) (by assumption)) hw | exact dret_no (dp_rowl (k := k) (by omega) (by assumption)) hw | exact dret_no (dp_rowc (k := k) (by omega) (by assumption)) hw | exact dret_no (dp_sym (i := i) (j := j) (by omega) (by omega) (by assumption)) hw | exact dret_no (dp_zero (i := i) (j := j) (by omega) (by omega) (by assumption)) hw | exact dret_no (dp_zero (i := i) (j := i) (by omega) rfl (by assumption)) hw | exact dret_yes (dp_make (i := i) (by omega) (by omega) hrw (by omega) hi2) hw | exact dret_yes (dp_make2 (i := i) (by omega) (by omega) hrw (by omega) hi2) hw
                    · skip
                      refine J_skip ?_
                      refine E_blk ?_
                      refine E_then ?_
                      refine J_region ?_
                      refine V_add (.n _) rfl rfl (wrap_ok (by omega)) rfl ?_   -- 18.0
                      refine V_mov (.n _) rfl rfl ?_   -- 18.1
                      refine V_sub [(0, _), (3, _), (6, _), (7, _), (32, _), (33, _), (36, _), (37, _), (38, _), (64, _)] ⟨rfl, rfl, rfl, rfl, rfl, rfl, rfl, rfl, rfl, rfl, trivial⟩ ?_
                      refine V_nil (.inl rfl) ?_
                      -- again L2 0
                      have hgood := dp_good2 (d := d) (i := i) (j := j) (by omega) (by omega)
                      refine E_again (j + 1) ?_ ?_ ?_ (fun w h => h)
                      · omega
                      · refine ⟨by omega, fun b hb => ?_⟩
                        by_cases e : b = j
                        · subst e; exact hgood
                        · exact hj2 b (by omega)
                      · refine ⟨?_, ?_, ?_, ?_, ?_, ?_, ?_, trivial⟩ <;> first | rfl | exact int_eq (by omega) | exact int_eq (by dsimp only; omega)
                · skip
                  refine J_exit ?_
                  refine E_then_exit ?_
                  refine E_lp_exit ?_
                  refine E_blk_hit ?_
                  refine E_blk ?_
                  refine E_then ?_
                  refine J_region ?_
                  refine V_add (.n _) rfl rfl (wrap_ok (by omega)) rfl ?_   -- 19.0
                  refine V_mov (.n _) rfl rfl ?_   -- 19.1
                  refine V_sub [(0, _), (3, _), (6, _), (32, _), (33, _), (36, _), (37, _), (38, _)] ⟨rfl, rfl, rfl, rfl, rfl, rfl, rfl, rfl, trivial⟩ ?_
                  refine V_nil (.inl rfl) ?_
                  -- again L1 0
                  refine E_again (i + 1) ?_ ?_ ?_ (fun w h => h)
                  · omega
                  · refine ⟨by omega, fun a b ha hb => ?_⟩
                    by_cases e : a = i
                    · subst e; exact hj2 b (by omega)
                    · exact hi2 a b (by omega) hb
                  · refine ⟨?_, ?_, ?_, ?_, trivial⟩ <;> first | rfl | exact int_eq (by omega) | exact int_eq (by dsimp only; omega)
            · skip
              refine J_exit ?_
              refine E_then_exit ?_
              refine E_lp_exit ?_
              refine E_blk_hit ?_
              refine E_then ?_
              refine J_seq ?_
              refine J_region ?_
              refine V_asg (.n _) rfl rfl ?_   -- 20.0
              refine V_sub [(0, _), (2, _), (3, _), (32, _), (33, _), (34, _)] ⟨rfl, rfl, rfl, rfl, rfl, rfl, trivial⟩ ?_
              refine V_nil (.inl rfl) ?_
              refine E_then ?_
              refine J_ret ?_
              -- return R6
              refine E_ret1 Tryd.results48 rfl (fun w hw => ?_)
              first | exact dret_no (dp_size (by omega)) hw | exact dret_no (dp_rowb (k := k) (by omega) (by assumption)) hw | exact dret_no (dp_rowl (k := k) (by omega) (by assumption)) hw | exact dret_no (dp_rowc (k := k) (by omega) (by assumption)) hw | exact dret_no (dp_sym (i := i) (j := j) (by omega) (by omega) (by assumption)) hw | exact dret_no (dp_zero (i := i) (j := j) (by omega) (by omega) (by assumption)) hw | exact dret_no (dp_zero (i := i) (j := i) (by omega) rfl (by assumption)) hw | exact dret_yes (dp_make (i := i) (by omega) (by omega) hrw (by omega) hi2) hw | exact dret_yes (dp_make2 (i := i) (by omega) (by omega) hrw (by omega) hi2) hw

end Go.Proofs.YtgeahmmepfmcoaaDoor
