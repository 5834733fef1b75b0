/- A plan, a row of rows of ints and a row of pairs out of an argument. -/
import Derived.Test.YtgeahmmepfmcoaaDoorRow
import Derived.Test.YtgeahmmepfmcoaaDoorCore11
import Derived.Deep.Matrix
import Derived.Deep.Strs
import Derived.WideKeyPair
namespace Go.Proofs.YtgeahmmepfmcoaaDoor.L
open Go Go.RowKit Go.ChangeShapes Go.WideShapes Go.ChangeAt
set_option linter.unusedVariables false
set_option linter.unusedSimpArgs false

variable {H : Type} {enc : TypeId × Value → H} {P : Program}

theorem weigh_all {e : TypeId} {ds : List (DataW H)} {d : DataW H} (hd : d ∈ ds) : ∀ x ∈ d.weights P e, x ∈ DataW.weightsAll P e ds := by
  intro x hx
  induction ds with
  | nil => simp at hd
  | cons y ys ih =>
    simp only [DataW.weightsAll, List.mem_append]
    rcases List.mem_cons.1 hd with rfl | h
    · exact .inl hx
    · exact .inr (ih h)

/-- ints, out of one cell -/
theorem open_cell_ints {w : World} {t e : TypeId} {cs : List Value} {y : DataW H × List MemPlace} {fuel : Nat} (ht : P.underlying t = some (.slice e)) (he : P.underlying e = some (.int .i64)) (hc : P.cellsOf e = 1)
    (hsz : (y.1.weights P t).all (· ≤ reachBytes) = true) (h : DataW.trod enc P w 0 (fun _ => true) true fuel t cs = some y) :
    ∃ A c, ∃ zs : List Int, cs = [.slice A zs.length c] ∧ zs.length * P.bytesOf e ≤ 140737488351232 ∧ zs.length ≤ c ∧ (∀ z ∈ zs, (Lit.int .i64 z).wf = true) ∧ Rd w A (I zs) := by
  rcases open_ints ht he hc h with ⟨h1, h2⟩ | ⟨a, len, cap, zs, h1, hb, hl, hm, hlen, hx, hcell, hwf⟩
  · exact ⟨none, 0, [], h1, by simp, by simp, by simp, rd_nil⟩
  · subst hx
    simp only [if_true] at hlen
    refine ⟨some a, cap, zs.take len, ?_, ?_, ?_, fun z hz => hwf z (List.mem_of_mem_take hz), ?_⟩
    · rw [h1, List.length_take, hlen, Nat.min_eq_left hl]
    · simp only [DataW.weights, ht, List.all_cons, Bool.and_eq_true, decide_eq_true_eq, lits, List.length_map, List.length_take, List.length_drop, reachBytes] at hsz
      rw [List.length_take]
      refine Nat.le_trans (Nat.mul_le_mul_right _ ?_) (of_decide_eq_true hsz.1)
      omega
    · rw [List.length_take]; omega
    · refine rd_of fun i v hv => ?_
      simp only [I, List.getElem?_map, List.getElem?_take] at hv
      split at hv
      · cases hz : zs[i]? with
        | none => rw [hz] at hv; simp at hv
        | some z =>
          rw [hz] at hv
          simp only [Option.map_some, Option.some.injEq] at hv
          subst hv
          have := hcell i (List.getElem?_eq_some_iff.1 hz).1
          rw [this]
          simp [List.getD_eq_getElem?_getD, hz]
      · simp at hv

/-- rows of ints, out of one cell -/
theorem open_cell_rows {w : World} {t e q : TypeId} {cs : List Value} {y : DataW H × List MemPlace} {fuel : Nat} (ht : P.underlying t = some (.slice e)) (he : P.underlying e = some (.slice q)) (hq : P.underlying q = some (.int .i64)) (ce : P.cellsOf e = 1) (cq : P.cellsOf q = 1)
    (hbq : P.bytesOf q = 8) (hsz : (y.1.weights P t).all (· ≤ reachBytes) = true) (h : DataW.trod enc P w 0 (fun _ => true) true fuel t cs = some y) :
    ∃ A c, ∃ vs : List Value, ∃ ch : List (List Int), cs = [.slice A ch.length c] ∧ ch.length * P.bytesOf e ≤ 140737488351232 ∧ ch.length ≤ c ∧ (∀ r ∈ ch, r.length * 8 ≤ 140737488351232) ∧ (∀ (i : Nat) (A : Option Addr) (l c : Nat), vs[i]? = some (Value.slice A l c) → l ≤ c) ∧ (∀ r ∈ ch, ∀ z ∈ r, (Lit.int .i64 z).wf = true) ∧ Mx w A vs ch := by
  rcases Go.Deep.open_int_rows ht he hq ce cq h with ⟨h1, h2⟩ | ⟨a, len, cap, A, Ln, C, Z, h1, hb, hl, hm, hx, hr⟩
  · exact ⟨none, 0, [], [], h1, by simp, by simp, by simp, by simp, by simp, ⟨rfl, rd_nil, fun i hi => absurd hi (by simp)⟩⟩
  · subst hx
    simp only [DataW.weights, ht, List.all_cons, Bool.and_eq_true, decide_eq_true_eq, List.length_map, List.length_range] at hsz
    obtain ⟨hs1, hs2⟩ := hsz
    rw [List.all_eq_true] at hs2
    have hln : ∀ r, r < len → ((Z r).take (Ln r)).length = Ln r := fun r hr' => by
      obtain ⟨_, g2, _, g4, _⟩ := hr r (by omega)
      rw [List.length_take]; omega
    have hrow : ∀ r, r < len → Ln r * 8 ≤ 140737488351232 := fun r hr' => by
      obtain ⟨_, g2, _, g4, _, g6, _⟩ := hr r (by omega)
      cases hA : A r with
      | none => have := g6 hA; omega
      | some a' =>
        have hm1 : Go.Deep.intRow .i64 (some a') (Ln r) (Z r) ∈ (List.range len).map fun r => (Go.Deep.intRow .i64 (A r) (Ln r) (Z r) : DataW H) := List.mem_map.2 ⟨r, by simpa using hr', by rw [hA]⟩
        have hm2 := weigh_all (P := P) (e := e) hm1 ((Ln r + (C r - Ln r)) * 8) (by
          simp only [Go.Deep.intRow, DataW.weights, he, hbq]
          refine List.mem_cons.2 (.inl ?_)
          simp only [lits, List.length_map, List.length_take, List.length_drop, g4]
          rw [Nat.min_eq_left g2])
        have h9 : (Ln r + (C r - Ln r)) * 8 ≤ reachBytes := of_decide_eq_true (hs2 _ (List.mem_append.2 (.inl hm2)))
        have h10 : reachBytes = 140737488351232 := rfl
        omega
    refine ⟨some a, cap, (List.range len).map (fun r => .slice (A r) (Ln r) (C r)), (List.range len).map (fun r => (Z r).take (Ln r)), ?_, ?_, ?_, ?_, ?_, ?_, ?_, ?_, ?_⟩
    · rw [h1]; simp
    · simp only [List.length_map, List.length_range]
      refine Nat.le_trans (Nat.mul_le_mul_right _ (show len ≤ len + (cap - len) by omega)) (by simpa [reachBytes] using hs1)
    · simpa using hl
    · intro r hr'
      obtain ⟨i, hi, rfl⟩ := List.mem_map.1 hr'
      rw [hln i (by simpa using hi)]
      exact hrow i (by simpa using hi)
    · intro i A' l c hv
      simp only [List.getElem?_map, Option.map_eq_some_iff] at hv
      obtain ⟨r, h1, h2⟩ := hv
      have hri : r < len := by have := List.mem_of_getElem? h1; simpa using this
      simp only [Value.slice.injEq] at h2
      obtain ⟨_, rfl, rfl⟩ := h2
      exact (hr r (by omega)).2.1
    · intro r hr' z hz
      obtain ⟨i, hi, rfl⟩ := List.mem_map.1 hr'
      exact (hr i (by have : i < len := by simpa using hi
                      omega)).2.2.2.2.1 z (List.mem_of_mem_take hz)
    · simp
    · refine rd_of fun i v hv => ?_
      simp only [List.getElem?_map, Option.map_eq_some_iff] at hv
      obtain ⟨r, h1, rfl⟩ := hv
      obtain ⟨hlt, e1⟩ := List.getElem?_eq_some_iff.1 h1
      rw [List.length_range] at hlt
      rw [List.getElem_range] at e1
      subst e1
      exact (hr i (by omega)).1
    · intro i hi
      have hi' : i < len := by simpa using hi
      have hg : ((List.range len).map fun r => (Z r).take (Ln r)).getD i [] = (Z i).take (Ln i) := by simp [hi']
      rw [hg, hln i hi']
      refine ⟨A i, C i, by simp [hi'], ?_⟩
      obtain ⟨_, g2, _, g4, _, g6, g7⟩ := hr i (by omega)
      cases hA : A i with
      | none =>
        have : (Z i).take (Ln i) = [] := List.eq_nil_of_length_eq_zero (by rw [hln i hi']; have := g6 hA; omega)
        rw [this]; exact rd_nil
      | some a' =>
        refine rd_of fun j v hv => ?_
        simp only [I, List.getElem?_map, List.getElem?_take] at hv
        split at hv
        · cases hz : (Z i)[j]? with
          | none => rw [hz] at hv; simp at hv
          | some z =>
            rw [hz] at hv
            simp only [Option.map_some, Option.some.injEq] at hv
            subst hv
            have := (g7 a' hA).2 j (by have := (List.getElem?_eq_some_iff.1 hz).1; omega)
            rw [this]
            simp [List.getD_eq_getElem?_getD, hz]
        · simp at hv

/-- two ints, out of two cells -/
theorem open_cells_pair {w : World} {t e : TypeId} {cs : List Value} {y : DataW H × List MemPlace} {fuel : Nat} (ht : P.underlying t = some (.array 2 e)) (he : P.underlying e = some (.int .i64)) (ce : P.cellsOf e = 1) (ct : P.cellsOf t = 2)
    (h : DataW.trod enc P w 0 (fun _ => true) true fuel t cs = some y) : ∃ a b : Int, cs = [.int .i64 a, .int .i64 b] ∧ (Lit.int .i64 a).wf = true ∧ (Lit.int .i64 b).wf = true := by
  obtain ⟨xs, m, _, _, hl, hx, hf⟩ := DataW.trod_array ht h
  rw [ct] at hl
  match cs, hl with
  | [u, v], _ =>
    match xs, hx with
    | [x0, x1], _ =>
      have h0 := hf 0 (by omega)
      have h1 := hf 1 (by omega)
      rw [ce] at h0 h1
      obtain ⟨a, ha, _, wa⟩ := DataW.trod_int he h0
      obtain ⟨b, hb, _, wb⟩ := DataW.trod_int he h1
      simp at ha hb
      exact ⟨a, b, by rw [ha, hb], wa, wb⟩

theorem Bp_get {be : List (Int × Int)} {j : Nat} {v : Value} (h : (Bp be)[j]? = some v) : ∃ b, be[j / 2]? = some b ∧ ((j % 2 = 0 ∧ v = .int .i64 b.1) ∨ (j % 2 = 1 ∧ v = .int .i64 b.2)) := by
  induction be generalizing j with
  | nil => simp [Bp] at h
  | cons b be ih =>
    rw [Bp_cons] at h
    match j with
    | 0 => simp at h; exact ⟨b, by simp, .inl ⟨rfl, h.symm⟩⟩
    | 1 => simp at h; exact ⟨b, by simp, .inr ⟨rfl, h.symm⟩⟩
    | j + 2 =>
      simp at h
      obtain ⟨c, h1, h2⟩ := ih h
      refine ⟨c, ?_, ?_⟩
      · rw [show (j + 2) / 2 = j / 2 + 1 by omega]; simpa using h1
      · rw [show (j + 2) % 2 = j % 2 by omega]; exact h2

/-- pairs of ints, out of one cell -/
theorem open_cell_pairs {w : World} {t e q : TypeId} {cs : List Value} {y : DataW H × List MemPlace} {fuel : Nat} (ht : P.underlying t = some (.slice e)) (he : P.underlying e = some (.array 2 q)) (hq : P.underlying q = some (.int .i64)) (ce : P.cellsOf e = 2) (cq : P.cellsOf q = 1)
    (hsz : (y.1.weights P t).all (· ≤ reachBytes) = true) (h : DataW.trod enc P w 0 (fun _ => true) true fuel t cs = some y) :
    ∃ A c, ∃ be : List (Int × Int), cs = [.slice A be.length c] ∧ be.length * P.bytesOf e ≤ 140737488351232 ∧ be.length ≤ c ∧ (∀ b ∈ be, (Lit.int .i64 b.1).wf = true ∧ (Lit.int .i64 b.2).wf = true) ∧ Rd w A (Bp be) := by
  rcases Go.Deep.open_slice ht h with ⟨h1, h2⟩ | ⟨a, len, cap, m, n, D, Pl, h1, hb, hl, hm, hmm, hx, hr⟩
  · exact ⟨none, 0, [], h1, by simp, by simp, by simp, rd_nil⟩
  · simp only [if_true] at hmm
    subst hx
    simp only [DataW.weights, ht, List.all_cons, Bool.and_eq_true, decide_eq_true_eq, List.length_map, List.length_range] at hsz
    obtain ⟨hs1, _⟩ := hsz
    obtain ⟨F, hF⟩ := Go.Deep.choose_lt (α := Int × Int) (n := len) (p := fun i b => w.cell? (a.add (i * 2)) = some (.int .i64 b.1) ∧ w.cell? (a.add (i * 2 + 1)) = some (.int .i64 b.2) ∧ (Lit.int .i64 b.1).wf = true ∧ (Lit.int .i64 b.2).wf = true) (fun i hi => by
      obtain ⟨cs', g1, g2⟩ := hr i (by omega)
      rw [ce] at g1
      obtain ⟨x, z, rfl, wx, wz⟩ := open_cells_pair he hq cq ce g2
      obtain ⟨_, _, hc⟩ := World.cells?_some g1
      have c0 := hc 0 (by omega)
      have c1 := hc 1 (by omega)
      refine ⟨(x, z), ?_, ?_, wx, wz⟩
      · have : (a.add (i * 2)).add 0 = a.add (i * 2) := by simp [Addr.add]
        rw [this] at c0
        simpa using c0
      · have hsp : a.spot = none ∨ i * 2 ≠ 0 := by
          by_cases h0 : i = 0
          · subst h0
            left
            have c0' : w.cell? (a.add 0) = some (.int .i64 x) := by
              have : (a.add (0 * 2)).add 0 = a.add 0 := by simp [Addr.add]
              rw [this] at c0
              simpa using c0
            simpa [Addr.add] using World.cell?_spot c0'
          · right; omega
        have : (a.add (i * 2)).add 1 = a.add (i * 2 + 1) := by
          by_cases h0 : i * 2 = 0
          · simp [Addr.add, h0]
          · simp [Addr.add, Nat.add_assoc]; split <;> simp_all <;> omega
        rw [this] at c1
        simpa using c1)
    refine ⟨some a, cap, (List.range len).map F, ?_, ?_, ?_, ?_, ?_⟩
    · rw [h1]; simp
    · simp only [List.length_map, List.length_range]
      refine Nat.le_trans (Nat.mul_le_mul_right _ (show len ≤ len + (m - len) by omega)) (by simpa [reachBytes] using hs1)
    · simpa using hl
    · intro b hb'
      obtain ⟨i, hi, rfl⟩ := List.mem_map.1 hb'
      have := hF i (by simpa using hi)
      exact ⟨this.2.2.1, this.2.2.2⟩
    · refine rd_of fun j v hv => ?_
      obtain ⟨b, g1, g2⟩ := Bp_get hv
      simp only [List.getElem?_map, Option.map_eq_some_iff] at g1
      obtain ⟨r, g3, rfl⟩ := g1
      have hlt := (List.getElem?_eq_some_iff.1 g3).1
      rw [List.length_range] at hlt
      rw [List.getElem?_range hlt] at g3
      cases g3
      have hh := hF (j / 2) hlt
      rcases g2 with ⟨k, rfl⟩ | ⟨k, rfl⟩
      · have := hh.1
        rwa [show j / 2 * 2 = j by omega] at this
      · have := hh.2.1
        rwa [show j / 2 * 2 + 1 = j by omega] at this

theorem okWide_struct3 {w : World} {r : Reach} {b0 : Nat} {t : TypeId} {fs : Array Field} {v : Value} (ht : P.underlying t = some (.struct fs)) (hc : P.cellsOf t = 3) (h : Value.okWide P w r b0 t v) : ∃ x y z, v = .agg #[x, y, z] := by
  simp only [Value.okWide, ht] at h
  obtain ⟨cs, rfl, h2, _⟩ := h
  rw [hc] at h2
  obtain ⟨l⟩ := cs
  match l, h2 with
  | [x, y, z], _ => exact ⟨x, y, z, rfl⟩

/-- what a plan asks of the types -/
structure PlanT (P : Program) (t : TypeId) where
  (s1 s2 s3 q e : TypeId)
  (f1 f2 f3 : Field)
  ht : P.underlying t = some (.struct #[f1, f2, f3])
  ct : P.cellsOf t = 3
  o1 : f1.offset = 0
  o2 : f2.offset = 1
  o3 : f3.offset = 2
  t1 : f1.type = s1
  t2 : f2.type = s2
  t3 : f3.type = s3
  c1 : P.cellsOf s1 = 1
  c2 : P.cellsOf s2 = 1
  c3 : P.cellsOf s3 = 1
  u1 : P.underlying s1 = some (.slice q)
  u2 : P.underlying s2 = some (.slice s1)
  u3 : P.underlying s3 = some (.slice e)
  ue : P.underlying e = some (.array 2 q)
  uq : P.underlying q = some (.int .i64)
  cq : P.cellsOf q = 1
  ce : P.cellsOf e = 2
  bq : P.bytesOf q = 8
  b1 : P.bytesOf s1 = 24
  be : P.bytesOf e = 16

/-- an argument that is a plan -/
theorem open_plan {w : World} {r : Reach} {b0 : Nat} {t : TypeId} {v : Value} {d : DataW H} {ps : List MemPlace} (T : PlanT P t) (hval : Value.okWide P w r b0 t v) (hsz : (d.weights P t).all (· ≤ reachBytes) = true)
    (h : DataW.Trod enc P w 0 (fun _ => true) true t v d ps) : ∃ A1 A2 A3 c1 c2 c3, ∃ vs : List Value, ∃ st : List Int, ∃ ch : List (List Int), ∃ be : List (Int × Int), v = .agg #[.slice A1 st.length c1, .slice A2 ch.length c2, .slice A3 be.length c3] ∧
      st.length ≤ 140737488351232 ∧ ch.length ≤ 140737488351232 ∧ be.length ≤ 140737488351232 ∧ PR w A1 A2 A3 vs st ch be ∧ (∀ r ∈ ch, r.length ≤ 140737488351232) ∧ st.length ≤ c1 ∧ (∀ (i : Nat) (A : Option Addr) (l c : Nat), vs[i]? = some (Value.slice A l c) → l ≤ c) := by
  obtain ⟨fuel, hf⟩ := h
  obtain ⟨x, y, z, rfl⟩ := okWide_struct3 T.ht T.ct hval
  simp only [Value.cells] at hf
  obtain ⟨y0, y1, y2, n, hx, _, g0, g1, g2⟩ := Go.Deep.trod_struct3 T.ht hf
  simp only [Prod.mk.injEq] at hx
  obtain ⟨rfl, _⟩ := hx
  rw [T.t1, T.o1, T.c1] at g0
  rw [T.t2, T.o2, T.c2] at g1
  rw [T.t3, T.o3, T.c3] at g2
  have hw : ∀ k, k ∈ y0.1.weights P T.s1 ∨ k ∈ y1.1.weights P T.s2 ∨ k ∈ y2.1.weights P T.s3 → decide (k ≤ reachBytes) = true := by
    intro k hk
    refine List.all_eq_true.1 hsz k ?_
    simp only [DataW.weights, T.ht, DataW.weightsEach, List.map_cons, List.map_nil, List.mem_append, T.t1, T.t2, T.t3]
    simpa using hk
  obtain ⟨A1, c1, st, e1, l1, k1, w1, m1⟩ := open_cell_ints T.u1 T.uq T.cq (List.all_eq_true.2 fun k hk => hw k (.inl hk)) g0
  obtain ⟨A2, c2, vs, ch, e2, l2, k2, r2, cr, w2, m2⟩ := open_cell_rows T.u2 T.u1 T.uq T.c1 T.cq T.bq (List.all_eq_true.2 fun k hk => hw k (.inr (.inl hk))) g1
  obtain ⟨A3, c3, be, e3, l3, k3, w3, m3⟩ := open_cell_pairs T.u3 T.ue T.uq T.ce T.cq (List.all_eq_true.2 fun k hk => hw k (.inr (.inr hk))) g2
  simp at e1 e2 e3
  subst e1; subst e2; subst e3
  rw [T.bq] at l1
  rw [T.b1] at l2
  rw [T.be] at l3
  exact ⟨A1, A2, A3, c1, c2, c3, vs, st, ch, be, rfl, by omega, by omega, by omega, ⟨m1, m2, m3⟩, fun r hr => by have := r2 r hr; omega, k1, cr⟩

/-- an argument that is a pair -/
theorem open_pair {w : World} {r : Reach} {b0 : Nat} {t e : TypeId} {v : Value} {d : DataW H} {ps : List MemPlace} (ht : P.underlying t = some (.array 2 e)) (he : P.underlying e = some (.int .i64)) (ce : P.cellsOf e = 1) (ct : P.cellsOf t = 2)
    (hval : Value.okWide P w r b0 t v) (h : DataW.Trod enc P w 0 (fun _ => true) true t v d ps) : ∃ a b : Int, v = .agg #[.int .i64 a, .int .i64 b] ∧ (Lit.int .i64 a).wf = true ∧ (Lit.int .i64 b).wf = true := by
  obtain ⟨fuel, hf⟩ := h
  simp only [Value.okWide, ht] at hval
  obtain ⟨cs, rfl, h2, _⟩ := hval
  simp only [Value.cells] at hf
  obtain ⟨a, b, h3, wa, wb⟩ := open_cells_pair ht he ce ct hf
  exact ⟨a, b, by rw [← h3], wa, wb⟩

/-- an argument that is a row of rows of ints -/
theorem open_mat {w : World} {r : Reach} {b0 : Nat} {t e q : TypeId} {v : Value} {d : DataW H} {ps : List MemPlace} (ht : P.underlying t = some (.slice e)) (he : P.underlying e = some (.slice q)) (hq : P.underlying q = some (.int .i64)) (ce : P.cellsOf e = 1) (cq : P.cellsOf q = 1) (hbq : P.bytesOf q = 8) (hbe : P.bytesOf e = 24)
    (hval : Value.okWide P w r b0 t v) (hsz : (d.weights P t).all (· ≤ reachBytes) = true) (h : DataW.Trod enc P w 0 (fun _ => true) true t v d ps) : ∃ A c, ∃ vs : List Value, ∃ ch : List (List Int), v = .slice A ch.length c ∧ ch.length ≤ 140737488351232 ∧ Mx w A vs ch ∧ (∀ r ∈ ch, r.length ≤ 140737488351232) ∧ (∀ r ∈ ch, ∀ z ∈ r, (Lit.int .i64 z).wf = true) := by
  obtain ⟨fuel, hf⟩ := h
  obtain ⟨a', len', cap', rfl⟩ := okWide_slice ht hval
  simp only [Value.cells] at hf
  obtain ⟨A, c, vs, ch, e2, l2, k2, r2, cr, w2, m2⟩ := open_cell_rows ht he hq ce cq hbq hsz hf
  rw [hbe] at l2
  exact ⟨A, c, vs, ch, by simpa using e2, by omega, m2, fun r hr => by have := r2 r hr; omega, w2⟩

/-- the sizes of one argument -/
theorem sized_one {ts : List TypeId} {ds : List (DataW H)} (h : (DataW.weightsEach P ts ds).all (· ≤ reachBytes) = true) {j : Nat} {t : TypeId} {d : DataW H} (ht : ts[j]? = some t) (hd : ds[j]? = some d) : (d.weights P t).all (· ≤ reachBytes) = true :=
  List.all_eq_true.2 fun k hk => List.all_eq_true.1 h k (DataW.weights_mem_each ht hd k hk)

end Go.Proofs.YtgeahmmepfmcoaaDoor.L
