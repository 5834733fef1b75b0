/- parts that the proof of BathTours uses -/
import Derived.Test.YtgeahmmepfmcoaaDoorTourlaws
import Derived.Deep.Matrix
import Derived.Deep.Strs
import Derived.WideKeyPair
namespace Go.Proofs.YtgeahmmepfmcoaaDoor.L
open Go Go.RowKit Go.ChangeShapes Go.WideShapes Go.ChangeAt
set_option linter.unusedVariables false
set_option linter.unusedSimpArgs false

variable {H : Type} {enc : TypeId × Value → H} {P : Program}

theorem weigh_all {e : TypeId} {ds : List (DataW H)} {d : DataW H} (hd : d ∈ ds) : ∀ x ∈ d.weights P e, x ∈ DataW.weightsAll P e ds := by
  intro x hx
  induction ds with
  | nil => simp at hd
  | cons y ys ih =>
    simp only [DataW.weightsAll, List.mem_append]
    rcases List.mem_cons.1 hd with rfl | h
    · exact .inl hx
    · exact .inr (ih h)

theorem open_cell_rows {w : World} {t e q : TypeId} {cs : List Value} {y : DataW H × List MemPlace} {fuel : Nat} (ht : P.underlying t = some (.slice e)) (he : P.underlying e = some (.slice q)) (hq : P.underlying q = some (.int .i64)) (ce : P.cellsOf e = 1) (cq : P.cellsOf q = 1)
    (hbq : P.bytesOf q = 8) (hsz : (y.1.weights P t).all (· ≤ reachBytes) = true) (h : DataW.trod enc P w 0 (fun _ => true) true fuel t cs = some y) :
    ∃ A c, ∃ vs : List Value, ∃ ch : List (List Int), cs = [.slice A ch.length c] ∧ ch.length * P.bytesOf e ≤ 140737488351232 ∧ ch.length ≤ c ∧ (∀ r ∈ ch, r.length * 8 ≤ 140737488351232) ∧ (∀ (i : Nat) (A : Option Addr) (l c : Nat), vs[i]? = some (Value.slice A l c) → l ≤ c) ∧ (∀ r ∈ ch, ∀ z ∈ r, (Lit.int .i64 z).wf = true) ∧ Mx w A vs ch := by
  rcases Go.Deep.open_int_rows ht he hq ce cq h with ⟨h1, h2⟩ | ⟨a, len, cap, A, Ln, C, Z, h1, hb, hl, hm, hx, hr⟩
  · exact ⟨none, 0, [], [], h1, by simp, by simp, by simp, by simp, by simp, ⟨rfl, rd_nil, fun i hi => absurd hi (by simp)⟩⟩
  · subst hx
    simp only [DataW.weights, ht, List.all_cons, Bool.and_eq_true, decide_eq_true_eq, List.length_map, List.length_range] at hsz
    obtain ⟨hs1, hs2⟩ := hsz
    rw [List.all_eq_true] at hs2
    have hln : ∀ r, r < len → ((Z r).take (Ln r)).length = Ln r := fun r hr' => by
      obtain ⟨_, g2, _, g4, _⟩ := hr r (by omega)
      rw [List.length_take]; omega
    have hrow : ∀ r, r < len → Ln r * 8 ≤ 140737488351232 := fun r hr' => by
      obtain ⟨_, g2, _, g4, _, g6, _⟩ := hr r (by omega)
      cases hA : A r with
      | none => have := g6 hA; omega
      | some a' =>
        have hm1 : Go.Deep.intRow .i64 (some a') (Ln r) (Z r) ∈ (List.range len).map fun r => (Go.Deep.intRow .i64 (A r) (Ln r) (Z r) : DataW H) := List.mem_map.2 ⟨r, by simpa using hr', by rw [hA]⟩
        have hm2 := weigh_all (P := P) (e := e) hm1 ((Ln r + (C r - Ln r)) * 8) (by
          simp only [Go.Deep.intRow, DataW.weights, he, hbq]
          refine List.mem_cons.2 (.inl ?_)
          simp only [lits, List.length_map, List.length_take, List.length_drop, g4]
          rw [Nat.min_eq_left g2])
        have h9 : (Ln r + (C r - Ln r)) * 8 ≤ reachBytes := of_decide_eq_true (hs2 _ (List.mem_append.2 (.inl hm2)))
        have h10 : reachBytes = 140737488351232 := rfl
        omega
    refine ⟨some a, cap, (List.range len).map (fun r => .slice (A r) (Ln r) (C r)), (List.range len).map (fun r => (Z r).take (Ln r)), ?_, ?_, ?_, ?_, ?_, ?_, ?_, ?_, ?_⟩
    · rw [h1]; simp
    · simp only [List.length_map, List.length_range]
      refine Nat.le_trans (Nat.mul_le_mul_right _ (show len ≤ len + (cap - len) by omega)) (by simpa [reachBytes] using hs1)
    · simpa using hl
    · intro r hr'
      obtain ⟨i, hi, rfl⟩ := List.mem_map.1 hr'
      rw [hln i (by simpa using hi)]
      exact hrow i (by simpa using hi)
    · intro i A' l c hv
      simp only [List.getElem?_map, Option.map_eq_some_iff] at hv
      obtain ⟨r, h1, h2⟩ := hv
      have hri : r < len := by have := List.mem_of_getElem? h1; simpa using this
      simp only [Value.slice.injEq] at h2
      obtain ⟨_, rfl, rfl⟩ := h2
      exact (hr r (by omega)).2.1
    · intro r hr' z hz
      obtain ⟨i, hi, rfl⟩ := List.mem_map.1 hr'
      exact (hr i (by have : i < len := by simpa using hi
                      omega)).2.2.2.2.1 z (List.mem_of_mem_take hz)
    · simp
    · refine rd_of fun i v hv => ?_
      simp only [List.getElem?_map, Option.map_eq_some_iff] at hv
      obtain ⟨r, h1, rfl⟩ := hv
      obtain ⟨hlt, e1⟩ := List.getElem?_eq_some_iff.1 h1
      rw [List.length_range] at hlt
      rw [List.getElem_range] at e1
      subst e1
      exact (hr i (by omega)).1
    · intro i hi
      have hi' : i < len := by simpa using hi
      have hg : ((List.range len).map fun r => (Z r).take (Ln r)).getD i [] = (Z i).take (Ln i) := by simp [hi']
      rw [hg, hln i hi']
      refine ⟨A i, C i, by simp [hi'], ?_⟩
      obtain ⟨_, g2, _, g4, _, g6, g7⟩ := hr i (by omega)
      cases hA : A i with
      | none =>
        have : (Z i).take (Ln i) = [] := List.eq_nil_of_length_eq_zero (by rw [hln i hi']; have := g6 hA; omega)
        rw [this]; exact rd_nil
      | some a' =>
        refine rd_of fun j v hv => ?_
        simp only [I, List.getElem?_map, List.getElem?_take] at hv
        split at hv
        · cases hz : (Z i)[j]? with
          | none => rw [hz] at hv; simp at hv
          | some z =>
            rw [hz] at hv
            simp only [Option.map_some, Option.some.injEq] at hv
            subst hv
            have := (g7 a' hA).2 j (by have := (List.getElem?_eq_some_iff.1 hz).1; omega)
            rw [this]
            simp [List.getD_eq_getElem?_getD, hz]
        · simp at hv

theorem open_mat {w : World} {r : Reach} {b0 : Nat} {t e q : TypeId} {v : Value} {d : DataW H} {ps : List MemPlace} (ht : P.underlying t = some (.slice e)) (he : P.underlying e = some (.slice q)) (hq : P.underlying q = some (.int .i64)) (ce : P.cellsOf e = 1) (cq : P.cellsOf q = 1) (hbq : P.bytesOf q = 8) (hbe : P.bytesOf e = 24)
    (hval : Value.okWide P w r b0 t v) (hsz : (d.weights P t).all (· ≤ reachBytes) = true) (h : DataW.Trod enc P w 0 (fun _ => true) true t v d ps) : ∃ A c, ∃ vs : List Value, ∃ ch : List (List Int), v = .slice A ch.length c ∧ ch.length ≤ 140737488351232 ∧ Mx w A vs ch ∧ (∀ r ∈ ch, r.length ≤ 140737488351232) ∧ (∀ r ∈ ch, ∀ z ∈ r, (Lit.int .i64 z).wf = true) ∧ (∀ (i : Nat) (A : Option Addr) (l c : Nat), vs[i]? = some (Value.slice A l c) → l ≤ c) := by
  obtain ⟨fuel, hf⟩ := h
  obtain ⟨a', len', cap', rfl⟩ := okWide_slice ht hval
  simp only [Value.cells] at hf
  obtain ⟨A, c, vs, ch, e2, l2, k2, r2, cr, w2, m2⟩ := open_cell_rows ht he hq ce cq hbq hsz hf
  rw [hbe] at l2
  exact ⟨A, c, vs, ch, by simpa using e2, by omega, m2, fun r hr => by have := r2 r hr; omega, w2, cr⟩

theorem sized_one {ts : List TypeId} {ds : List (DataW H)} (h : (DataW.weightsEach P ts ds).all (· ≤ reachBytes) = true) {j : Nat} {t : TypeId} {d : DataW H} (ht : ts[j]? = some t) (hd : ds[j]? = some d) : (d.weights P t).all (· ≤ reachBytes) = true :=
  List.all_eq_true.2 fun k hk => List.all_eq_true.1 h k (DataW.weights_mem_each ht hd k hk)

end Go.Proofs.YtgeahmmepfmcoaaDoor.L
