/- parts of the proofs of the bath statements -/
import Derived.Test.YtgeahmmepfmcoaaDoorOrder
namespace Go.Proofs.YtgeahmmepfmcoaaDoor
open Go Go.RowKit L
set_option linter.unusedVariables false
set_option linter.unusedSimpArgs false

structure PRds (D : List Ent) (A1 A2 A3 : Option Addr) (vs : List Value) (st : List Int) (ch : Rows2) (be : List (Int × Int)) : Prop where
  of : ∀ w, (∀ x ∈ D, x.ok w) → PR w A1 A2 A3 vs st ch be
theorem PRds.at {D G : List Ent} {A1 A2 A3 : Option Addr} {vs : List Value} {st : List Int} {ch : Rows2} {be : List (Int × Int)} {w0 w : World} (h : PRds D A1 A2 A3 vs st ch be) (hw : St w0 G w) (hs : ∀ x ∈ D, x ∈ G) : PR w A1 A2 A3 vs st ch be := h.of w fun x hx => hw.has x (hs x hx)
def ch12 (ch : Rows2) : Rows2 := (ch.take 12).map fun r => r.take 12
theorem take_I (l : List Int) (k : Nat) : (I l).take k = I (l.take k) := by simp [I, List.map_take]
theorem ch12_get {ch : Rows2} {i : Nat} (h : i < ch.length) (h2 : i < 12) : (ch12 ch).getD i [] = (ch.getD i []).take 12 := by
  have h3 : i < (ch.take 12).length := by rw [List.length_take]; omega
  simp [ch12, h, h2]
theorem ch12_len (ch : Rows2) : (ch12 ch).length = min 12 ch.length := by simp [ch12]
theorem Bp_snoc (be : List (Int × Int)) {k : Nat} (h : k < be.length) : Bp (be.take k) ++ [.int .i64 (be.getD k (0, 0)).1, .int .i64 (be.getD k (0, 0)).2] = Bp (be.take (k + 1)) := by
  rw [List.take_succ_eq_append_getElem h, Bp_append]
  simp [Bp, h]
/-- one row that is copied -/
def RowOk (ch : Rows2) (rvs : List Value) (Xs : List Ent) (i : Nat) : Prop := ∃ A c X, rvs[i]? = some (.slice A ((ch.getD i []).take 12).length c) ∧ X ∈ Xs ∧ Rds [X] A (I ((ch.getD i []).take 12))
theorem rows_next {ch : Rows2} {rvs : List Value} {Xs : List Ent} {k : Nat} {A : Option Addr} {c : Nat} {X : Ent} (hl : rvs.length = k) (h : ∀ i, i < k → RowOk ch rvs Xs i) (hr : Rds [X] A (I ((ch.getD k []).take 12))) :
    ∀ i, i < k + 1 → RowOk ch (rvs ++ [.slice A ((ch.getD k []).take 12).length c]) (X :: Xs) i := by
  intro i hi
  by_cases e : i = k
  · subst e
    exact ⟨A, c, X, by rw [List.getElem?_append_right (by omega)]; simp [hl], by simp, hr⟩
  · obtain ⟨A', c', X', h1, h2, h3⟩ := h i (by omega)
    exact ⟨A', c', X', by rw [List.getElem?_append_left (by omega)]; exact h1, by simp [h2], h3⟩


theorem of_perm {w0 w : World} {a r x b o y z : Ent} {Xs : List Ent} (h : St w0 (a :: r :: b :: x :: o :: y :: z :: Xs) w) : St w0 (b :: x :: o :: y :: z :: r :: Xs) w := by
  have h1 : St w0 (r :: ([b, x, o, y, z] ++ Xs)) w := h.sublist (by simp)
  exact h1.perm (List.perm_middle (l₁ := [b, x, o, y, z]))
theorem keys_e {a : Ent} {Xs : List Ent} : keys (a :: .e :: Xs) = keys (a :: Xs) := by cases a <;> rfl
theorem of_empty {w0 w : World} {a : Ent} {Xs : List Ent} (h : St w0 (a :: Xs) w) : St w0 (a :: .e :: Xs) w :=
  ⟨h.base, by rw [keys_e]; exact h.nodup, by rw [keys_e]; exact h.ge, fun x hx => by
    simp only [List.mem_cons] at hx
    rcases hx with rfl | rfl | hx
    · exact h.has _ (by simp)
    · trivial
    · exact h.has _ (by simp [hx])⟩
theorem of_drop {w0 w : World} {a b x : Ent} {Xs : List Ent} (h : St w0 (a :: b :: x :: Xs) w) : St w0 (x :: Xs) w := h.sublist (by simp)
theorem sub_six {a b c x y z : Ent} {Xs : List Ent} : List.Sublist (b :: c :: x :: Xs) (a :: b :: c :: x :: y :: z :: Xs) :=
  (List.Sublist.cons_cons _ (List.Sublist.cons_cons _ (List.Sublist.cons_cons _ ((List.Sublist.refl _).cons _ |>.cons _)))).cons _

theorem clone_spec (w : World) (A : Option Addr) (c : Nat) (xs : List Int) (hl : xs.length ≤ 16777216) (hr : Rd w A (I xs)) : Calls Tryd.prog 79 #[.slice A xs.length c] w fun e w' => ∃ v D, e = .returned v ∧ St w D w' ∧ ∃ A' c' X, v = .slice A' xs.length c' ∧ D = [X] ∧ Rds [X] A' (I xs) := by
  refine calls (args := [.slice A xs.length c]) Tryd.func79 rfl Tryd.ntmps79 (Nat.le_of_ble_eq_true rfl) (St.refl w) ?_
  refine J_seq ?_
  refine J_region ?_
  refine V_asg (.n _) rfl rfl ?_   -- 0.0
  refine V_sub [(0, _), (2, _)] ⟨rfl, rfl, trivial⟩ ?_
  refine V_nil (.inl rfl) ?_
  refine E_then ?_
  refine J_seq ?_
  refine J_seq ?_
  refine J_region ?_
  refine V_mov (.n _) rfl rfl ?_   -- 1.0
  refine V_isnil (.n _) Tryd.underlying34 rfl rfl rfl ?_   -- 1.1
  refine V_sub [(0, _), (2, _), (4, _)] ⟨rfl, rfl, rfl, trivial⟩ ?_
  refine V_nil (.inl rfl) ?_
  refine E_then ?_
  refine J_cond rfl (fun h1 => ?_) (fun h1 => ?_)   -- C0
  · skip
    refine J_seq ?_
    refine J_region ?_
    refine V_asg (.n _) rfl rfl ?_   -- 2.0
    refine V_sub [(0, _), (2, _), (4, _)] ⟨rfl, rfl, rfl, trivial⟩ ?_
    refine V_nil (.inl rfl) ?_
    refine E_then ?_
    refine J_ret ?_
    refine E_then_ret ?_
    -- return R0
    refine E_ret1 Tryd.results79 rfl (fun w hw => ?_)
    have hA : A = none := by assumption
    subst hA
    have hx := rd_none hr
    have hx0 : xs = [] := by simpa [I] using hx
    subst hx0
    exact ⟨_, [.e], rfl, ⟨hw.base, List.nodup_nil, by simp [keys, Ent.key], by simp [Ent.ok]⟩, none, 0, .e, rfl, rfl, Rds.nil⟩
  · skip
    refine J_skip ?_
    refine E_then ?_
    refine J_seq ?_
    refine J_region ?_
    refine V_lit (.n _) Tryd.underlying34 Tryd.sizeOf3 Tryd.zeroValue3 .nil rfl rfl rfl (fun _ => trivial) (fun b5 => ?_)   -- 3.0
    refine V_mov (.n _) rfl rfl ?_   -- 3.1
    refine V_app (z := 1) (len := 0) (cs := []) (ms := I xs) (X := .c b5 3 []) (G1 := []) (G2 := []) (.n _) Tryd.underlying34 Tryd.underlying34 Tryd.typeInfo3 rfl rfl rfl rfl rfl rfl rfl rfl (Own.row rfl) (fun w1 hw1 => hr.keep hw1) (by simp) (I_one _) (by omega) rfl ?_
    intro v2 X2 hown
    refine V_asg (.n _) rfl rfl ?_   -- 3.3
    refine V_sub [(0, _), (2, _), (4, _)] ⟨rfl, rfl, rfl, trivial⟩ ?_
    refine V_nil (.inl rfl) ?_
    refine E_then ?_
    refine J_ret ?_
    -- return R1
    refine E_ret1 Tryd.results79 rfl (fun w hw => ?_)
    obtain ⟨A', c', rfl, _⟩ := hown.is
    rw [List.nil_append, Nat.zero_add] at hown
    exact ⟨_, [X2], rfl, hw, A', c', X2, by rw [Nat.zero_add], rfl, own_rds hown⟩

theorem of_spec (w : World) (A1 A2 A3 : Option Addr) (c1 c2 c3 : Nat) (vs : List Value) (st : List Int) (ch : Rows2) (be : List (Int × Int)) (hl1 : st.length ≤ 140737488351232) (hl2 : ch.length ≤ 140737488351232) (hl3 : be.length ≤ 140737488351232) (hp : PR w A1 A2 A3 vs st ch be) (hc1 : st.length ≤ c1) (hcr : ∀ (i : Nat) (A : Option Addr) (l c : Nat), vs[i]? = some (Value.slice A l c) → l ≤ c) : Calls Tryd.prog 32 #[.agg #[.slice A1 st.length c1, .slice A2 ch.length c2, .slice A3 be.length c3]] w fun e w' => ∃ v D, e = .returned v ∧ St w D w' ∧ ∃ A1' c1' A2' c2' A3' c3' vs', v = .agg #[.slice A1' (st.take 12).length c1', .slice A2' (ch12 ch).length c2', .slice A3' (be.take 42).length c3'] ∧ PRds D A1' A2' A3' vs' (st.take 12) (ch12 ch) (be.take 42) := by
  refine calls (args := [.agg #[.slice A1 st.length c1, .slice A2 ch.length c2, .slice A3 be.length c3]]) Tryd.func32 rfl Tryd.ntmps32 (Nat.le_of_ble_eq_true rfl) (St.refl w) ?_
  refine J_seq ?_
  refine J_region ?_
  refine V_box (.n _) rfl rfl rfl (fun _ => trivial) (fun b1 => ?_)   -- 0.0
  refine V_alloc (.n _) Tryd.zeroValue51 rfl rfl (fun _ => trivial) (fun b2 => ?_)   -- 0.1
  refine V_sub [(0, _), (1, _), (2, _)] ⟨rfl, rfl, rfl, trivial⟩ ?_
  refine V_nil (.inl rfl) ?_
  refine E_then ?_
  refine J_seq ?_
  refine J_region ?_
  first | refine V_fa0 (.n _) fo48_0 rfl rfl ?_ | refine V_faz (.n _) fo48_0 rfl rfl ?_ | refine V_fa (.n _) fo48_0 rfl rfl ?_   -- 1.0
  refine V_ld (.n _) Tryd.isAgg34 rfl (by repeat (first | exact List.Mem.head _ | assumption | apply List.Mem.tail | apply List.mem_append_right)) (by rfl) rfl ?_   -- 1.1
  first | refine V_fa0 (.n _) fo48_0 rfl rfl ?_ | refine V_faz (.n _) fo48_0 rfl rfl ?_ | refine V_fa (.n _) fo48_0 rfl rfl ?_   -- 1.2
  refine V_ld (.n _) Tryd.isAgg34 rfl (by repeat (first | exact List.Mem.head _ | assumption | apply List.Mem.tail | apply List.mem_append_right)) (by rfl) rfl ?_   -- 1.3
  refine V_len (.n _) Tryd.underlying34 rfl rfl ?_   -- 1.4
  refine V_min (.n _) rfl rfl rfl ?_   -- 1.5
  refine V_slcH (.n _) Tryd.underlying34 Tryd.sizeOf3 rfl rfl (by omega) (by omega) hc1 rfl ?_   -- 1.6
  rw [show (min (((st.length : Nat) : Int)) 12).toNat = (st.take 12).length by simp; omega]
  refine V_call (post := fun v D => ∃ A' c' X, v = .slice A' (st.take 12).length c' ∧ D = [X] ∧ Rds [X] A' (I (st.take 12))) (.n _) Tryd.call79 (.cons rfl .nil) (fun w1 hw1 => clone_spec w1 A1 c1 (st.take 12) (by simp; omega) (by have := (hp.h1.keep hw1).take 12; rw [take_I] at this; exact this)) rfl trivial ?_
  rintro _ D ⟨A0, c0, X0, rfl, rfl, hR0⟩
  refine V_build (zs := [.slice none 0 0, .slice none 0 0, .slice none 0 0]) (pl := [(0, 1), (1, 1), (2, 1)]) (.n _) (Pls.struct Tryd.underlying51 Tryd.zeroValue51 rfl rfl (by intro i f x hf hx; match i, hf, hx with | 0, hf, hx => (cases hf; cases hx; exact ⟨rfl, Tryd.sizeOf34⟩) | 1, hf, hx => (cases hf; cases hx; exact ⟨rfl, Tryd.sizeOf45⟩) | 2, hf, hx => (cases hf; cases hx; exact ⟨rfl, Tryd.sizeOf46⟩))) (.cons rfl rfl rfl rfl rfl (.cons .z .nil) .nil) rfl ?_   -- 1.8
  refine V_alloc (.n _) Tryd.zeroValue51 rfl rfl (fun _ => trivial) (fun b3 => ?_)   -- 1.9
  refine V_stN (.n _) Tryd.sizeOf51 rfl rfl rfl (by simp [Value.oneCell']) (by repeat (first | exact SetAt.z | apply SetAt.s)) rfl rfl ?_   -- 1.10
  refine V_sub [(0, _), (1, _), (2, _), (3, _)] ⟨rfl, rfl, rfl, rfl, trivial⟩ ?_
  refine V_nil (.inl rfl) ?_
  refine E_then ?_
  refine J_seq ?_
  refine J_seq ?_
  refine J_region ?_
  first | refine V_fa0 (.n _) fo48_1 rfl rfl ?_ | refine V_faz (.n _) fo48_1 rfl rfl ?_ | refine V_fa (.n _) fo48_1 rfl rfl ?_   -- 2.0
  refine V_ld (.n _) Tryd.isAgg45 rfl (by repeat (first | exact List.Mem.head _ | assumption | apply List.Mem.tail | apply List.mem_append_right)) (by rfl) rfl ?_   -- 2.1
  refine V_len (.n _) Tryd.underlying45 rfl rfl ?_   -- 2.2
  refine V_mov (.n _) rfl rfl ?_   -- 2.3
  refine V_sub [(0, _), (1, _), (2, _), (3, _), (18, _), (19, _), (20, _)] ⟨rfl, rfl, rfl, rfl, rfl, rfl, rfl, trivial⟩ ?_
  refine V_nil (.inl rfl) ?_
  refine E_then ?_
  refine J_block ?_
  -- loop L0
  refine J_loop (X := Nat × Value × Ent × List Value × List Ent) (fun x => [(0, (.agg #[.slice A1 st.length c1, .slice A2 ch.length c2, .slice A3 be.length c3])), (1, (.pointer (some ⟨b1, 0, none⟩))), (2, (.pointer (some ⟨b2, 0, none⟩))), (3, (.pointer (some ⟨b3, 0, none⟩))), (18, (.slice A2 ch.length c2)), (19, (.int .i64 ((ch.length : Nat) : Int))), (20, .int .i64 (x.1 : Nat))]) (fun x => .c b3 51 [.slice A0 (st.take 12).length c0, x.2.1, .slice none 0 0] :: x.2.2.1 :: X0 :: .c b2 51 [.slice none 0 0, .slice none 0 0, .slice none 0 0] :: .c b1 48 [.slice A1 st.length c1, .slice A2 ch.length c2, .slice A3 be.length c3] :: x.2.2.2.2) (fun x => x.1 ≤ ch.length ∧ x.1 ≤ 12 ∧ Own 34 1 x.2.1 x.1 x.2.2.2.1 x.2.2.1 ∧ x.2.2.2.1.length = x.1 ∧ ∀ i, i < x.1 → RowOk ch x.2.2.2.1 x.2.2.2.2 i) (fun x => ch.length - x.1) (0, .slice none 0 0, .e, [], []) (by refine ⟨?_, ?_, ?_, ?_, ?_, ?_, ?_, trivial⟩ <;> first | rfl | exact int_eq (by omega)) (fun w h => of_empty h) ?_ ?_
  · exact ⟨Nat.zero_le _, Nat.zero_le _, Own.nil _ _ _, rfl, fun i hi => by omega⟩
  · rintro ⟨k, v1, X1, rvs, Xs⟩ ⟨hk, hk12, hown, hrl, hrs⟩
    dsimp only at hk hk12 hown hrl hrs ⊢
    refine J_seq ?_
    refine J_region ?_
    refine V_lss (.n _) rfl rfl rfl ?_   -- 3.0
    refine V_sub [(0, _), (1, _), (2, _), (3, _), (18, _), (19, _), (20, _), (21, _)] ⟨rfl, rfl, rfl, rfl, rfl, rfl, rfl, rfl, trivial⟩ ?_
    refine V_nil (.inl rfl) ?_
    refine E_then ?_
    refine J_seq ?_
    refine J_cond rfl (fun h1 => ?_) (fun h1 => ?_)   -- C0
    · skip
      refine J_skip ?_
      refine E_then ?_
      refine J_seq ?_
      refine J_block ?_
      refine J_seq ?_
      refine J_region ?_
      refine V_mov (.n _) rfl rfl ?_   -- 4.0
      first | refine V_ix (.n _) Tryd.underlying45 Tryd.sizeOf34 rfl rfl (by omega) (by omega) rfl ?_ | refine V_ixz (.n _) Tryd.underlying45 Tryd.sizeOf34 rfl rfl (hp.h2.rd.pl (by rw [hp.h2.len]; omega)) (by omega) (by omega) rfl ?_ | refine V_ixz (.n _) Tryd.underlying45 Tryd.sizeOf34 rfl rfl (hp.h3.pl (by simp; omega)) (by omega) (by omega) rfl ?_   -- 4.1
      obtain ⟨Ai, ci, hrow, hrr⟩ := hp.h2.get (i := k) (by omega)
      have hci : (ch.getD k []).length ≤ ci := hcr k Ai _ ci (by rw [Int.toNat_natCast, Nat.mul_one] at hrow; exact hrow)
      refine V_ldz (.n _) Tryd.isAgg34 rfl hp.h2.rd hrow rfl ?_   -- 4.2
      refine V_asg (.n _) rfl rfl ?_   -- 4.3
      refine V_asg (.n _) rfl rfl ?_   -- 4.4
      refine V_sub [(0, _), (1, _), (2, _), (3, _), (4, _), (5, _), (18, _), (19, _), (20, _), (21, _)] ⟨rfl, rfl, rfl, rfl, rfl, rfl, rfl, rfl, rfl, rfl, trivial⟩ ?_
      refine V_nil (.inl rfl) ?_
      refine E_then ?_
      refine J_seq ?_
      refine J_seq ?_
      refine J_region ?_
      refine V_mov (.n _) rfl rfl ?_   -- 5.0
      refine V_gtr (.n _) rfl rfl rfl ?_   -- 5.1
      refine V_sub [(0, _), (1, _), (2, _), (3, _), (4, _), (5, _), (18, _), (19, _), (20, _), (21, _), (26, _)] ⟨rfl, rfl, rfl, rfl, rfl, rfl, rfl, rfl, rfl, rfl, rfl, trivial⟩ ?_
      refine V_nil (.inl rfl) ?_
      refine E_then ?_
      refine J_cond rfl (fun h2 => ?_) (fun h2 => ?_)   -- C1
      · skip
        refine J_exit ?_
        refine E_then_exit ?_
        refine E_blk_exit rfl ?_
        refine E_then_exit ?_
        refine E_lp_exit ?_
        refine E_blk_hit ?_
        refine E_then ?_
        refine J_seq ?_
        refine J_seq ?_
        refine J_region ?_
        first | refine V_fa0 (.n _) fo48_2 rfl rfl ?_ | refine V_faz (.n _) fo48_2 rfl rfl ?_ | refine V_fa (.n _) fo48_2 rfl rfl ?_   -- 8.0
        refine V_ld (.n _) Tryd.isAgg46 rfl (by repeat (first | exact List.Mem.head _ | assumption | apply List.Mem.tail | apply List.mem_append_right)) (by rfl) rfl ?_   -- 8.1
        refine V_len (.n _) Tryd.underlying46 rfl rfl ?_   -- 8.2
        refine V_mov (.n _) rfl rfl ?_   -- 8.3
        refine V_sub [(0, _), (1, _), (2, _), (3, _), (4, _), (5, _), (18, _), (19, _), (20, _), (21, _), (26, _), (40, _), (41, _), (42, _)] ⟨rfl, rfl, rfl, rfl, rfl, rfl, rfl, rfl, rfl, rfl, rfl, rfl, rfl, rfl, trivial⟩ ?_
        refine V_nil (.inl rfl) ?_
        refine E_then ?_
        refine J_block ?_
        -- loop L1
        have hkk : k = min 12 ch.length := by omega
        refine J_loop (X := Nat × Value × Ent) (fun x => [(0, (.agg #[.slice A1 st.length c1, .slice A2 ch.length c2, .slice A3 be.length c3])), (1, (.pointer (some ⟨b1, 0, none⟩))), (2, (.pointer (some ⟨b2, 0, none⟩))), (3, (.pointer (some ⟨b3, 0, none⟩))), (18, (.slice A2 ch.length c2)), (19, (.int .i64 ((ch.length : Nat) : Int))), (40, (.slice A3 be.length c3)), (41, (.int .i64 ((be.length : Nat) : Int))), (42, .int .i64 (x.1 : Nat))]) (fun x => .c b3 51 [.slice A0 (st.take 12).length c0, v1, x.2.1] :: x.2.2 :: X1 :: X0 :: .c b2 51 [.slice none 0 0, .slice none 0 0, .slice none 0 0] :: .c b1 48 [.slice A1 st.length c1, .slice A2 ch.length c2, .slice A3 be.length c3] :: Xs) (fun x => x.1 ≤ be.length ∧ x.1 ≤ 42 ∧ Own 49 2 x.2.1 x.1 (Bp (be.take x.1)) x.2.2) (fun x => be.length - x.1) (0, .slice none 0 0, .e) (by refine ⟨?_, ?_, ?_, ?_, ?_, ?_, ?_, ?_, ?_, trivial⟩ <;> first | rfl | exact int_eq (by omega)) (fun w h => of_empty h) ?_ ?_
        · exact ⟨Nat.zero_le _, Nat.zero_le _, Own.nil _ _ _⟩
        · clear hk hk12
          rintro ⟨k3, v3, X3⟩ ⟨hk3, hk42, hown3⟩
          dsimp only at hk3 hk42 hown3 ⊢
          refine J_seq ?_
          refine J_region ?_
          refine V_lss (.n _) rfl rfl rfl ?_   -- 9.0
          refine V_sub [(0, _), (1, _), (2, _), (3, _), (18, _), (19, _), (40, _), (41, _), (42, _), (43, _)] ⟨rfl, rfl, rfl, rfl, rfl, rfl, rfl, rfl, rfl, rfl, trivial⟩ ?_
          refine V_nil (.inl rfl) ?_
          refine E_then ?_
          refine J_seq ?_
          refine J_cond rfl (fun h3 => ?_) (fun h3 => ?_)   -- C2
          · skip
            refine J_skip ?_
            refine E_then ?_
            refine J_seq ?_
            refine J_block ?_
            refine J_seq ?_
            refine J_region ?_
            refine V_mov (.n _) rfl rfl ?_   -- 10.0
            first | refine V_ix (.n _) Tryd.underlying46 Tryd.sizeOf49 rfl rfl (by omega) (by omega) rfl ?_ | refine V_ixz (.n _) Tryd.underlying46 Tryd.sizeOf49 rfl rfl (hp.h2.rd.pl (by rw [hp.h2.len]; omega)) (by omega) (by omega) rfl ?_ | refine V_ixz (.n _) Tryd.underlying46 Tryd.sizeOf49 rfl rfl (hp.h3.pl (by simp; omega)) (by omega) (by omega) rfl ?_   -- 10.1
            refine V_ldzN (vs := [.int .i64 (be.getD k3 (0, 0)).1, .int .i64 (be.getD k3 (0, 0)).2]) (.n _) Tryd.isAgg49 Tryd.sizeOf49 rfl hp.h3 (Bp_two (by omega)) rfl rfl ?_   -- 10.2
            refine V_alloc (.n _) Tryd.zeroValue49 rfl rfl (fun _ => trivial) (fun b7 => ?_)   -- 10.3
            refine V_asg (.n _) rfl rfl ?_   -- 10.4
            refine V_stN (.n _) Tryd.sizeOf49 rfl rfl rfl (by simp [Value.oneCell']) (by repeat (first | exact SetAt.z | apply SetAt.s)) rfl rfl ?_   -- 10.5
            refine V_sub [(0, _), (1, _), (2, _), (3, _), (6, _), (7, _), (18, _), (19, _), (40, _), (41, _), (42, _), (43, _)] ⟨rfl, rfl, rfl, rfl, rfl, rfl, rfl, rfl, rfl, rfl, rfl, rfl, trivial⟩ ?_
            refine V_nil (.inl rfl) ?_
            refine E_then ?_
            refine J_seq ?_
            refine J_seq ?_
            refine J_region ?_
            refine V_mov (.n _) rfl rfl ?_   -- 11.0
            refine V_gtr (.n _) rfl rfl rfl ?_   -- 11.1
            refine V_sub [(0, _), (1, _), (2, _), (3, _), (6, _), (7, _), (18, _), (19, _), (40, _), (41, _), (42, _), (43, _), (48, _)] ⟨rfl, rfl, rfl, rfl, rfl, rfl, rfl, rfl, rfl, rfl, rfl, rfl, rfl, trivial⟩ ?_
            refine V_nil (.inl rfl) ?_
            refine E_then ?_
            refine J_cond rfl (fun h4 => ?_) (fun h4 => ?_)   -- C3
            · skip
              refine J_exit ?_
              refine E_then_exit ?_
              refine E_blk_exit rfl ?_
              refine E_then_exit ?_
              refine E_lp_exit ?_
              refine E_blk_hit ?_
              refine E_then ?_
              refine J_seq ?_
              refine J_region ?_
              obtain ⟨A1', q1, rfl, hq1⟩ := hown.is
              obtain ⟨A3', q3, rfl, hq3⟩ := hown3.is
              refine V_ldN (.n _) Tryd.isAgg51 Tryd.sizeOf51 rfl (by repeat (first | exact List.Mem.head _ | assumption | apply List.Mem.tail | apply List.mem_append_right)) (by rfl) rfl rfl ?_   -- 14.0
              refine V_stN (.n _) Tryd.sizeOf51 rfl rfl rfl (by simp [Value.oneCell']) (by repeat (first | exact SetAt.z | apply SetAt.s)) rfl rfl ?_   -- 14.1
              refine V_sub [(0, _), (1, _), (2, _), (3, _), (6, _), (7, _), (18, _), (19, _), (40, _), (41, _), (42, _), (43, _), (48, _)] ⟨rfl, rfl, rfl, rfl, rfl, rfl, rfl, rfl, rfl, rfl, rfl, rfl, rfl, trivial⟩ ?_
              refine V_nil (.inl rfl) ?_
              refine E_then ?_
              refine J_ret ?_
              -- return R0
              refine E_rets (rs := [.cell 2 51]) Tryd.results32 (.c rfl Tryd.isAgg51 Tryd.sizeOf51 (by repeat (first | exact List.Mem.head _ | assumption | apply List.Mem.tail | apply List.mem_append_right)) rfl .nil) rfl (fun w hw => ?_)
              have hk3' : k3 = (be.take 42).length := by rw [List.length_take]; omega
              have hbt : be.take k3 = be.take 42 := by
                rw [hk3', List.length_take, List.take_eq_take_iff]; omega
              rw [hbt] at hown3
              rw [hkk, ← ch12_len ch] at hown hrl
              refine ⟨_, X3 :: X1 :: X0 :: Xs, rfl, hw.sublist (by first | exact sub_six | exact sub_six.cons _), A0, c0, A1', q1, A3', q3, rvs, ?_, ⟨fun w1 hx => ⟨hR0 w1 (fun x h => hx x (by simp at h; simp [h])), ⟨hrl, hown.rd (hx _ (by simp)), fun i hi => ?_⟩, hown3.rd (hx _ (by simp))⟩⟩⟩
              · rw [hkk, ← ch12_len ch, hk3']; rfl
              · rw [ch12_len] at hi
                obtain ⟨A', c', X, h1, h2, h3⟩ := hrs i (by omega)
                rw [ch12_get (by omega) (by omega)]
                exact ⟨A', c', h1, h3 w1 (fun x h => hx x (by simp at h; subst h; simp [h2]))⟩
            · skip
              refine J_skip ?_
              refine E_then ?_
              refine J_region ?_
              first | refine V_fa0 (.n _) fo51_2 rfl rfl ?_ | refine V_faz (.n _) fo51_2 rfl rfl ?_ | refine V_fa (.n _) fo51_2 rfl rfl ?_   -- 12.0
              refine V_ld (.n _) Tryd.isAgg46 rfl (by repeat (first | exact List.Mem.head _ | assumption | apply List.Mem.tail | apply List.mem_append_right)) (by rfl) rfl ?_   -- 12.1
              refine V_ldN (.n _) Tryd.isAgg49 Tryd.sizeOf49 rfl (by repeat (first | exact List.Mem.head _ | assumption | apply List.Mem.tail | apply List.mem_append_right)) (by rfl) rfl rfl ?_   -- 12.2
              refine V_lit (.n _) Tryd.underlying46 Tryd.sizeOf49 Tryd.zeroValue49 (.cons rfl rfl rfl .nil) rfl rfl rfl (fun _ => trivial) (fun b52 => ?_)   -- 12.3
              refine V_app (z := 2) (ms := [.int .i64 (be.getD k3 (0, 0)).1, .int .i64 (be.getD k3 (0, 0)).2]) (X := X3) (G1 := [.c b52 49 [.int .i64 (be.getD k3 (0, 0)).1, .int .i64 (be.getD k3 (0, 0)).2], .c b7 49 [.int .i64 (be.getD k3 (0, 0)).1, .int .i64 (be.getD k3 (0, 0)).2], .c b3 51 [.slice A0 (st.take 12).length c0, v1, v3]]) (.n _) Tryd.underlying46 Tryd.underlying46 Tryd.typeInfo49 rfl rfl rfl rfl rfl rfl rfl rfl hown3 (fun w1 hw1 => Rd.own hw1 (t := 49) (List.Mem.head _)) (by simp) (by simp [Value.oneCell']) (by omega) rfl ?_
              intro v4 X4 hown4
              obtain ⟨q1, q2, rfl, _⟩ := hown4.is
              simp only [List.cons_append, List.nil_append]
              rw [Bp_snoc be (by omega)] at hown4
              first | refine V_fa0 (.n _) fo51_2 rfl rfl ?_ | refine V_faz (.n _) fo51_2 rfl rfl ?_ | refine V_fa (.n _) fo51_2 rfl rfl ?_   -- 12.5
              refine V_stF (.n _) Tryd.sizeOf46 rfl rfl rfl (by repeat (first | exact SetAt.z | apply SetAt.s)) (by repeat (first | exact LSet.z | apply LSet.s)) ?_   -- 12.6
              refine V_sub [(0, _), (1, _), (2, _), (3, _), (6, _), (7, _), (18, _), (19, _), (40, _), (41, _), (42, _), (43, _), (48, _)] ⟨rfl, rfl, rfl, rfl, rfl, rfl, rfl, rfl, rfl, rfl, rfl, rfl, rfl, trivial⟩ ?_
              refine V_nil (.inl rfl) ?_
              refine E_blk ?_
              refine E_then ?_
              refine J_region ?_
              refine V_add (.n _) rfl rfl (wrap_ok (by omega)) rfl ?_   -- 13.0
              refine V_mov (.n _) rfl rfl ?_   -- 13.1
              refine V_sub [(0, _), (1, _), (2, _), (3, _), (6, _), (7, _), (18, _), (19, _), (40, _), (41, _), (42, _), (43, _), (48, _)] ⟨rfl, rfl, rfl, rfl, rfl, rfl, rfl, rfl, rfl, rfl, rfl, rfl, rfl, trivial⟩ ?_
              refine V_nil (.inl rfl) ?_
              -- again L1 0
              refine E_again (X := Nat × Value × Ent) (KI := fun x => [(0, (.agg #[.slice A1 st.length c1, .slice A2 ch.length c2, .slice A3 be.length c3])), (1, (.pointer (some ⟨b1, 0, none⟩))), (2, (.pointer (some ⟨b2, 0, none⟩))), (3, (.pointer (some ⟨b3, 0, none⟩))), (18, (.slice A2 ch.length c2)), (19, (.int .i64 ((ch.length : Nat) : Int))), (40, (.slice A3 be.length c3)), (41, (.int .i64 ((be.length : Nat) : Int))), (42, .int .i64 (x.1 : Nat))]) (GI := fun x => .c b3 51 [.slice A0 (st.take 12).length c0, v1, x.2.1] :: x.2.2 :: X1 :: X0 :: .c b2 51 [.slice none 0 0, .slice none 0 0, .slice none 0 0] :: .c b1 48 [.slice A1 st.length c1, .slice A2 ch.length c2, .slice A3 be.length c3] :: Xs) (I := fun x => x.1 ≤ be.length ∧ x.1 ≤ 42 ∧ Own 49 2 x.2.1 x.1 (Bp (be.take x.1)) x.2.2) (μ := fun x => be.length - x.1) (x := (k3, v3, X3)) ((k3 + 1, .slice q1 (k3 + 1) q2, X4)) ?_ ?_ ?_ (fun w h => of_drop h)
              · show be.length - (k3 + 1) < be.length - k3; omega
              · exact ⟨by dsimp only; omega, by dsimp only; omega, hown4⟩
              · refine ⟨?_, ?_, ?_, ?_, ?_, ?_, ?_, ?_, ?_, trivial⟩ <;> first | rfl | exact int_eq (by omega) | exact int_eq (by dsimp only; omega)
          · skip
            refine J_exit ?_
            refine E_then_exit ?_
            refine E_lp_exit ?_
            refine E_blk_hit ?_
            refine E_then ?_
            refine J_seq ?_
            refine J_region ?_
            obtain ⟨A1', q1, rfl, hq1⟩ := hown.is
            obtain ⟨A3', q3, rfl, hq3⟩ := hown3.is
            refine V_ldN (.n _) Tryd.isAgg51 Tryd.sizeOf51 rfl (by repeat (first | exact List.Mem.head _ | assumption | apply List.Mem.tail | apply List.mem_append_right)) (by rfl) rfl rfl ?_   -- 14.0
            refine V_stN (.n _) Tryd.sizeOf51 rfl rfl rfl (by simp [Value.oneCell']) (by repeat (first | exact SetAt.z | apply SetAt.s)) rfl rfl ?_   -- 14.1
            refine V_sub [(0, _), (1, _), (2, _), (3, _), (18, _), (19, _), (40, _), (41, _), (42, _), (43, _)] ⟨rfl, rfl, rfl, rfl, rfl, rfl, rfl, rfl, rfl, rfl, trivial⟩ ?_
            refine V_nil (.inl rfl) ?_
            refine E_then ?_
            refine J_ret ?_
            -- return R1
            refine E_rets (rs := [.cell 2 51]) Tryd.results32 (.c rfl Tryd.isAgg51 Tryd.sizeOf51 (by repeat (first | exact List.Mem.head _ | assumption | apply List.Mem.tail | apply List.mem_append_right)) rfl .nil) rfl (fun w hw => ?_)
            have hk3' : k3 = (be.take 42).length := by rw [List.length_take]; omega
            have hbt : be.take k3 = be.take 42 := by
              rw [hk3', List.length_take, List.take_eq_take_iff]; omega
            rw [hbt] at hown3
            rw [hkk, ← ch12_len ch] at hown hrl
            refine ⟨_, X3 :: X1 :: X0 :: Xs, rfl, hw.sublist (by first | exact sub_six | exact sub_six.cons _), A0, c0, A1', q1, A3', q3, rvs, ?_, ⟨fun w1 hx => ⟨hR0 w1 (fun x h => hx x (by simp at h; simp [h])), ⟨hrl, hown.rd (hx _ (by simp)), fun i hi => ?_⟩, hown3.rd (hx _ (by simp))⟩⟩⟩
            · rw [hkk, ← ch12_len ch, hk3']; rfl
            · rw [ch12_len] at hi
              obtain ⟨A', c', X, h1, h2, h3⟩ := hrs i (by omega)
              rw [ch12_get (by omega) (by omega)]
              exact ⟨A', c', h1, h3 w1 (fun x h => hx x (by simp at h; subst h; simp [h2]))⟩
      · skip
        refine J_skip ?_
        refine E_then ?_
        refine J_draw (Gs := _) (cl := [.p, .r, .p, .p, .p, .p, .p, .e, .e, .w, .p, .w]) (by kernel_rfl) (fun _ _ h => h) ?_
        first | refine V_fa0 (.s _ _ _) fo51_1 rfl rfl ?_ | refine V_faz (.s _ _ _) fo51_1 rfl rfl ?_ | refine V_fa (.s _ _ _) fo51_1 rfl rfl ?_   -- 6.0
        refine V_ld (.s _ _ _) Tryd.isAgg45 rfl (by repeat (first | exact List.Mem.head _ | assumption | apply List.Mem.tail | apply List.mem_append_right)) (by rfl) rfl ?_   -- 6.1
        refine V_mov (.s _ _ _) rfl rfl ?_   -- 6.2
        refine V_mov (.s _ _ _) rfl rfl ?_   -- 6.3
        refine V_len (.s _ _ _) Tryd.underlying34 rfl rfl ?_   -- 6.4
        refine V_min (.s _ _ _) rfl rfl rfl ?_   -- 6.5
        refine V_slcH (.s _ _ _) Tryd.underlying34 Tryd.sizeOf3 rfl rfl (by omega) (by omega) hci rfl ?_   -- 6.6
        rw [show (min ((((ch.getD k []).length : Nat) : Int)) 12).toNat = ((ch.getD k []).take 12).length by rw [List.length_take]; omega]
        refine V_call (post := fun v D => ∃ A' c' X, v = .slice A' ((ch.getD k []).take 12).length c' ∧ D = [X] ∧ Rds [X] A' (I ((ch.getD k []).take 12))) (.s _ _ _) Tryd.call79 (.cons rfl .nil) (fun w1 hw1 => clone_spec w1 Ai ci ((ch.getD k []).take 12) (by rw [List.length_take]; omega) (by have := (hrr.keep hw1).take 12; rw [take_I] at this; exact this)) rfl (fun _ _ h => h.sublist (by simp)) ?_
        rintro _ D ⟨Ar, cr, Xr, rfl, rfl, hRr⟩
        refine V_lit (.s _ _ _) Tryd.underlying45 Tryd.sizeOf34 Tryd.zeroValue34 (.cons rfl rfl rfl .nil) rfl rfl rfl (fun _ => (fun _ _ h => h.sublist (by simp))) (fun b35 => ?_)   -- 6.8
        refine V_app (z := 1) (ms := [.slice Ar ((ch.getD k []).take 12).length cr]) (X := X1) (G1 := [.c b35 34 [.slice Ar ((ch.getD k []).take 12).length cr], Xr, .c b3 51 [.slice A0 (st.take 12).length c0, v1, .slice none 0 0]]) (.s _ _ _) Tryd.underlying45 Tryd.underlying45 Tryd.typeInfo34 rfl rfl rfl rfl rfl rfl rfl rfl hown (fun w1 hw1 => Rd.own hw1 (t := 34) (List.Mem.head _)) (by simp) (by simp [Value.oneCell']) (by omega) rfl ?_
        intro v2 X2 hown2
        obtain ⟨q1, q2, rfl, _⟩ := hown2.is
        simp only [List.cons_append, List.nil_append]
        first | refine V_fa0 (.s _ _ _) fo51_1 rfl rfl ?_ | refine V_faz (.s _ _ _) fo51_1 rfl rfl ?_ | refine V_fa (.s _ _ _) fo51_1 rfl rfl ?_   -- 6.10
        refine V_stF (.s _ _ _) Tryd.sizeOf45 rfl rfl rfl (by repeat (first | exact SetAt.z | apply SetAt.s)) (by repeat (first | exact LSet.z | apply LSet.s)) ?_   -- 6.11
        refine V_sub [(0, _), (1, _), (2, _), (3, _), (4, _), (5, _), (18, _), (19, _), (20, _), (21, _), (26, _)] ⟨rfl, rfl, rfl, rfl, rfl, rfl, rfl, rfl, rfl, rfl, rfl, trivial⟩ ?_
        refine V_nil (.inr ⟨_, rfl⟩) ?_
        refine E_blk ?_
        refine E_then ?_
        refine J_region ?_
        refine V_add (.n _) rfl rfl (wrap_ok (by omega)) rfl ?_   -- 7.0
        refine V_mov (.n _) rfl rfl ?_   -- 7.1
        refine V_sub [(0, _), (1, _), (2, _), (3, _), (4, _), (5, _), (18, _), (19, _), (20, _), (21, _), (26, _)] ⟨rfl, rfl, rfl, rfl, rfl, rfl, rfl, rfl, rfl, rfl, rfl, trivial⟩ ?_
        refine V_nil (.inl rfl) ?_
        -- again L0 0
        refine E_again (X := Nat × Value × Ent × List Value × List Ent) (KI := fun x => [(0, (.agg #[.slice A1 st.length c1, .slice A2 ch.length c2, .slice A3 be.length c3])), (1, (.pointer (some ⟨b1, 0, none⟩))), (2, (.pointer (some ⟨b2, 0, none⟩))), (3, (.pointer (some ⟨b3, 0, none⟩))), (18, (.slice A2 ch.length c2)), (19, (.int .i64 ((ch.length : Nat) : Int))), (20, .int .i64 (x.1 : Nat))]) (GI := fun x => .c b3 51 [.slice A0 (st.take 12).length c0, x.2.1, .slice none 0 0] :: x.2.2.1 :: X0 :: .c b2 51 [.slice none 0 0, .slice none 0 0, .slice none 0 0] :: .c b1 48 [.slice A1 st.length c1, .slice A2 ch.length c2, .slice A3 be.length c3] :: x.2.2.2.2) (I := fun x => x.1 ≤ ch.length ∧ x.1 ≤ 12 ∧ Own 34 1 x.2.1 x.1 x.2.2.2.1 x.2.2.1 ∧ x.2.2.2.1.length = x.1 ∧ ∀ i, i < x.1 → RowOk ch x.2.2.2.1 x.2.2.2.2 i) (μ := fun x => ch.length - x.1) (x := (k, v1, X1, rvs, Xs)) ((k + 1, .slice q1 (k + 1) q2, X2, rvs ++ [.slice Ar ((ch.getD k []).take 12).length cr], Xr :: Xs)) ?_ ?_ ?_ (fun w h => of_perm h)
        · show ch.length - (k + 1) < ch.length - k; omega
        · exact ⟨by dsimp only; omega, by dsimp only; omega, hown2, by simp [hrl], rows_next hrl hrs hRr⟩
        · refine ⟨?_, ?_, ?_, ?_, ?_, ?_, ?_, trivial⟩ <;> first | rfl | exact int_eq (by omega) | exact int_eq (by dsimp only; omega)
    · skip
      refine J_exit ?_
      refine E_then_exit ?_
      refine E_lp_exit ?_
      refine E_blk_hit ?_
      refine E_then ?_
      refine J_seq ?_
      refine J_seq ?_
      refine J_region ?_
      first | refine V_fa0 (.n _) fo48_2 rfl rfl ?_ | refine V_faz (.n _) fo48_2 rfl rfl ?_ | refine V_fa (.n _) fo48_2 rfl rfl ?_   -- 8.0
      refine V_ld (.n _) Tryd.isAgg46 rfl (by repeat (first | exact List.Mem.head _ | assumption | apply List.Mem.tail | apply List.mem_append_right)) (by rfl) rfl ?_   -- 8.1
      refine V_len (.n _) Tryd.underlying46 rfl rfl ?_   -- 8.2
      refine V_mov (.n _) rfl rfl ?_   -- 8.3
      refine V_sub [(0, _), (1, _), (2, _), (3, _), (18, _), (19, _), (20, _), (21, _), (40, _), (41, _), (42, _)] ⟨rfl, rfl, rfl, rfl, rfl, rfl, rfl, rfl, rfl, rfl, rfl, trivial⟩ ?_
      refine V_nil (.inl rfl) ?_
      refine E_then ?_
      refine J_block ?_
      -- loop L1
      have hkk : k = min 12 ch.length := by omega
      refine J_loop (X := Nat × Value × Ent) (fun x => [(0, (.agg #[.slice A1 st.length c1, .slice A2 ch.length c2, .slice A3 be.length c3])), (1, (.pointer (some ⟨b1, 0, none⟩))), (2, (.pointer (some ⟨b2, 0, none⟩))), (3, (.pointer (some ⟨b3, 0, none⟩))), (18, (.slice A2 ch.length c2)), (19, (.int .i64 ((ch.length : Nat) : Int))), (40, (.slice A3 be.length c3)), (41, (.int .i64 ((be.length : Nat) : Int))), (42, .int .i64 (x.1 : Nat))]) (fun x => .c b3 51 [.slice A0 (st.take 12).length c0, v1, x.2.1] :: x.2.2 :: X1 :: X0 :: .c b2 51 [.slice none 0 0, .slice none 0 0, .slice none 0 0] :: .c b1 48 [.slice A1 st.length c1, .slice A2 ch.length c2, .slice A3 be.length c3] :: Xs) (fun x => x.1 ≤ be.length ∧ x.1 ≤ 42 ∧ Own 49 2 x.2.1 x.1 (Bp (be.take x.1)) x.2.2) (fun x => be.length - x.1) (0, .slice none 0 0, .e) (by refine ⟨?_, ?_, ?_, ?_, ?_, ?_, ?_, ?_, ?_, trivial⟩ <;> first | rfl | exact int_eq (by omega)) (fun w h => of_empty h) ?_ ?_
      · exact ⟨Nat.zero_le _, Nat.zero_le _, Own.nil _ _ _⟩
      · clear hk hk12
        rintro ⟨k3, v3, X3⟩ ⟨hk3, hk42, hown3⟩
        dsimp only at hk3 hk42 hown3 ⊢
        refine J_seq ?_
        refine J_region ?_
        refine V_lss (.n _) rfl rfl rfl ?_   -- 9.0
        refine V_sub [(0, _), (1, _), (2, _), (3, _), (18, _), (19, _), (40, _), (41, _), (42, _), (43, _)] ⟨rfl, rfl, rfl, rfl, rfl, rfl, rfl, rfl, rfl, rfl, trivial⟩ ?_
        refine V_nil (.inl rfl) ?_
        refine E_then ?_
        refine J_seq ?_
        refine J_cond rfl (fun h5 => ?_) (fun h5 => ?_)   -- C2
        · skip
          refine J_skip ?_
          refine E_then ?_
          refine J_seq ?_
          refine J_block ?_
          refine J_seq ?_
          refine J_region ?_
          refine V_mov (.n _) rfl rfl ?_   -- 10.0
          first | refine V_ix (.n _) Tryd.underlying46 Tryd.sizeOf49 rfl rfl (by omega) (by omega) rfl ?_ | refine V_ixz (.n _) Tryd.underlying46 Tryd.sizeOf49 rfl rfl (hp.h2.rd.pl (by rw [hp.h2.len]; omega)) (by omega) (by omega) rfl ?_ | refine V_ixz (.n _) Tryd.underlying46 Tryd.sizeOf49 rfl rfl (hp.h3.pl (by simp; omega)) (by omega) (by omega) rfl ?_   -- 10.1
          refine V_ldzN (vs := [.int .i64 (be.getD k3 (0, 0)).1, .int .i64 (be.getD k3 (0, 0)).2]) (.n _) Tryd.isAgg49 Tryd.sizeOf49 rfl hp.h3 (Bp_two (by omega)) rfl rfl ?_   -- 10.2
          refine V_alloc (.n _) Tryd.zeroValue49 rfl rfl (fun _ => trivial) (fun b7 => ?_)   -- 10.3
          refine V_asg (.n _) rfl rfl ?_   -- 10.4
          refine V_stN (.n _) Tryd.sizeOf49 rfl rfl rfl (by simp [Value.oneCell']) (by repeat (first | exact SetAt.z | apply SetAt.s)) rfl rfl ?_   -- 10.5
          refine V_sub [(0, _), (1, _), (2, _), (3, _), (6, _), (7, _), (18, _), (19, _), (40, _), (41, _), (42, _), (43, _)] ⟨rfl, rfl, rfl, rfl, rfl, rfl, rfl, rfl, rfl, rfl, rfl, rfl, trivial⟩ ?_
          refine V_nil (.inl rfl) ?_
          refine E_then ?_
          refine J_seq ?_
          refine J_seq ?_
          refine J_region ?_
          refine V_mov (.n _) rfl rfl ?_   -- 11.0
          refine V_gtr (.n _) rfl rfl rfl ?_   -- 11.1
          refine V_sub [(0, _), (1, _), (2, _), (3, _), (6, _), (7, _), (18, _), (19, _), (40, _), (41, _), (42, _), (43, _), (48, _)] ⟨rfl, rfl, rfl, rfl, rfl, rfl, rfl, rfl, rfl, rfl, rfl, rfl, rfl, trivial⟩ ?_
          refine V_nil (.inl rfl) ?_
          refine E_then ?_
          refine J_cond rfl (fun h6 => ?_) (fun h6 => ?_)   -- C3
          · skip
            refine J_exit ?_
            refine E_then_exit ?_
            refine E_blk_exit rfl ?_
            refine E_then_exit ?_
            refine E_lp_exit ?_
            refine E_blk_hit ?_
            refine E_then ?_
            refine J_seq ?_
            refine J_region ?_
            obtain ⟨A1', q1, rfl, hq1⟩ := hown.is
            obtain ⟨A3', q3, rfl, hq3⟩ := hown3.is
            refine V_ldN (.n _) Tryd.isAgg51 Tryd.sizeOf51 rfl (by repeat (first | exact List.Mem.head _ | assumption | apply List.Mem.tail | apply List.mem_append_right)) (by rfl) rfl rfl ?_   -- 14.0
            refine V_stN (.n _) Tryd.sizeOf51 rfl rfl rfl (by simp [Value.oneCell']) (by repeat (first | exact SetAt.z | apply SetAt.s)) rfl rfl ?_   -- 14.1
            refine V_sub [(0, _), (1, _), (2, _), (3, _), (6, _), (7, _), (18, _), (19, _), (40, _), (41, _), (42, _), (43, _), (48, _)] ⟨rfl, rfl, rfl, rfl, rfl, rfl, rfl, rfl, rfl, rfl, rfl, rfl, rfl, trivial⟩ ?_
            refine V_nil (.inl rfl) ?_
            refine E_then ?_
            refine J_ret ?_
            -- return R2
            refine E_rets (rs := [.cell 2 51]) Tryd.results32 (.c rfl Tryd.isAgg51 Tryd.sizeOf51 (by repeat (first | exact List.Mem.head _ | assumption | apply List.Mem.tail | apply List.mem_append_right)) rfl .nil) rfl (fun w hw => ?_)
            have hk3' : k3 = (be.take 42).length := by rw [List.length_take]; omega
            have hbt : be.take k3 = be.take 42 := by
              rw [hk3', List.length_take, List.take_eq_take_iff]; omega
            rw [hbt] at hown3
            rw [hkk, ← ch12_len ch] at hown hrl
            refine ⟨_, X3 :: X1 :: X0 :: Xs, rfl, hw.sublist (by first | exact sub_six | exact sub_six.cons _), A0, c0, A1', q1, A3', q3, rvs, ?_, ⟨fun w1 hx => ⟨hR0 w1 (fun x h => hx x (by simp at h; simp [h])), ⟨hrl, hown.rd (hx _ (by simp)), fun i hi => ?_⟩, hown3.rd (hx _ (by simp))⟩⟩⟩
            · rw [hkk, ← ch12_len ch, hk3']; rfl
            · rw [ch12_len] at hi
              obtain ⟨A', c', X, h1, h2, h3⟩ := hrs i (by omega)
              rw [ch12_get (by omega) (by omega)]
              exact ⟨A', c', h1, h3 w1 (fun x h => hx x (by simp at h; subst h; simp [h2]))⟩
          · skip
            refine J_skip ?_
            refine E_then ?_
            refine J_region ?_
            first | refine V_fa0 (.n _) fo51_2 rfl rfl ?_ | refine V_faz (.n _) fo51_2 rfl rfl ?_ | refine V_fa (.n _) fo51_2 rfl rfl ?_   -- 12.0
            refine V_ld (.n _) Tryd.isAgg46 rfl (by repeat (first | exact List.Mem.head _ | assumption | apply List.Mem.tail | apply List.mem_append_right)) (by rfl) rfl ?_   -- 12.1
            refine V_ldN (.n _) Tryd.isAgg49 Tryd.sizeOf49 rfl (by repeat (first | exact List.Mem.head _ | assumption | apply List.Mem.tail | apply List.mem_append_right)) (by rfl) rfl rfl ?_   -- 12.2
            refine V_lit (.n _) Tryd.underlying46 Tryd.sizeOf49 Tryd.zeroValue49 (.cons rfl rfl rfl .nil) rfl rfl rfl (fun _ => trivial) (fun b52 => ?_)   -- 12.3
            refine V_app (z := 2) (ms := [.int .i64 (be.getD k3 (0, 0)).1, .int .i64 (be.getD k3 (0, 0)).2]) (X := X3) (G1 := [.c b52 49 [.int .i64 (be.getD k3 (0, 0)).1, .int .i64 (be.getD k3 (0, 0)).2], .c b7 49 [.int .i64 (be.getD k3 (0, 0)).1, .int .i64 (be.getD k3 (0, 0)).2], .c b3 51 [.slice A0 (st.take 12).length c0, v1, v3]]) (.n _) Tryd.underlying46 Tryd.underlying46 Tryd.typeInfo49 rfl rfl rfl rfl rfl rfl rfl rfl hown3 (fun w1 hw1 => Rd.own hw1 (t := 49) (List.Mem.head _)) (by simp) (by simp [Value.oneCell']) (by omega) rfl ?_
            intro v4 X4 hown4
            obtain ⟨q1, q2, rfl, _⟩ := hown4.is
            simp only [List.cons_append, List.nil_append]
            rw [Bp_snoc be (by omega)] at hown4
            first | refine V_fa0 (.n _) fo51_2 rfl rfl ?_ | refine V_faz (.n _) fo51_2 rfl rfl ?_ | refine V_fa (.n _) fo51_2 rfl rfl ?_   -- 12.5
            refine V_stF (.n _) Tryd.sizeOf46 rfl rfl rfl (by repeat (first | exact SetAt.z | apply SetAt.s)) (by repeat (first | exact LSet.z | apply LSet.s)) ?_   -- 12.6
            refine V_sub [(0, _), (1, _), (2, _), (3, _), (6, _), (7, _), (18, _), (19, _), (40, _), (41, _), (42, _), (43, _), (48, _)] ⟨rfl, rfl, rfl, rfl, rfl, rfl, rfl, rfl, rfl, rfl, rfl, rfl, rfl, trivial⟩ ?_
            refine V_nil (.inl rfl) ?_
            refine E_blk ?_
            refine E_then ?_
            refine J_region ?_
            refine V_add (.n _) rfl rfl (wrap_ok (by omega)) rfl ?_   -- 13.0
            refine V_mov (.n _) rfl rfl ?_   -- 13.1
            refine V_sub [(0, _), (1, _), (2, _), (3, _), (6, _), (7, _), (18, _), (19, _), (40, _), (41, _), (42, _), (43, _), (48, _)] ⟨rfl, rfl, rfl, rfl, rfl, rfl, rfl, rfl, rfl, rfl, rfl, rfl, rfl, trivial⟩ ?_
            refine V_nil (.inl rfl) ?_
            -- again L1 0
            refine E_again (X := Nat × Value × Ent) (KI := fun x => [(0, (.agg #[.slice A1 st.length c1, .slice A2 ch.length c2, .slice A3 be.length c3])), (1, (.pointer (some ⟨b1, 0, none⟩))), (2, (.pointer (some ⟨b2, 0, none⟩))), (3, (.pointer (some ⟨b3, 0, none⟩))), (18, (.slice A2 ch.length c2)), (19, (.int .i64 ((ch.length : Nat) : Int))), (40, (.slice A3 be.length c3)), (41, (.int .i64 ((be.length : Nat) : Int))), (42, .int .i64 (x.1 : Nat))]) (GI := fun x => .c b3 51 [.slice A0 (st.take 12).length c0, v1, x.2.1] :: x.2.2 :: X1 :: X0 :: .c b2 51 [.slice none 0 0, .slice none 0 0, .slice none 0 0] :: .c b1 48 [.slice A1 st.length c1, .slice A2 ch.length c2, .slice A3 be.length c3] :: Xs) (I := fun x => x.1 ≤ be.length ∧ x.1 ≤ 42 ∧ Own 49 2 x.2.1 x.1 (Bp (be.take x.1)) x.2.2) (μ := fun x => be.length - x.1) (x := (k3, v3, X3)) ((k3 + 1, .slice q1 (k3 + 1) q2, X4)) ?_ ?_ ?_ (fun w h => of_drop h)
            · show be.length - (k3 + 1) < be.length - k3; omega
            · exact ⟨by dsimp only; omega, by dsimp only; omega, hown4⟩
            · refine ⟨?_, ?_, ?_, ?_, ?_, ?_, ?_, ?_, ?_, trivial⟩ <;> first | rfl | exact int_eq (by omega) | exact int_eq (by dsimp only; omega)
        · skip
          refine J_exit ?_
          refine E_then_exit ?_
          refine E_lp_exit ?_
          refine E_blk_hit ?_
          refine E_then ?_
          refine J_seq ?_
          refine J_region ?_
          obtain ⟨A1', q1, rfl, hq1⟩ := hown.is
          obtain ⟨A3', q3, rfl, hq3⟩ := hown3.is
          refine V_ldN (.n _) Tryd.isAgg51 Tryd.sizeOf51 rfl (by repeat (first | exact List.Mem.head _ | assumption | apply List.Mem.tail | apply List.mem_append_right)) (by rfl) rfl rfl ?_   -- 14.0
          refine V_stN (.n _) Tryd.sizeOf51 rfl rfl rfl (by simp [Value.oneCell']) (by repeat (first | exact SetAt.z | apply SetAt.s)) rfl rfl ?_   -- 14.1
          refine V_sub [(0, _), (1, _), (2, _), (3, _), (18, _), (19, _), (40, _), (41, _), (42, _), (43, _)] ⟨rfl, rfl, rfl, rfl, rfl, rfl, rfl, rfl, rfl, rfl, trivial⟩ ?_
          refine V_nil (.inl rfl) ?_
          refine E_then ?_
          refine J_ret ?_
          -- return R3
          refine E_rets (rs := [.cell 2 51]) Tryd.results32 (.c rfl Tryd.isAgg51 Tryd.sizeOf51 (by repeat (first | exact List.Mem.head _ | assumption | apply List.Mem.tail | apply List.mem_append_right)) rfl .nil) rfl (fun w hw => ?_)
          have hk3' : k3 = (be.take 42).length := by rw [List.length_take]; omega
          have hbt : be.take k3 = be.take 42 := by
            rw [hk3', List.length_take, List.take_eq_take_iff]; omega
          rw [hbt] at hown3
          rw [hkk, ← ch12_len ch] at hown hrl
          refine ⟨_, X3 :: X1 :: X0 :: Xs, rfl, hw.sublist (by first | exact sub_six | exact sub_six.cons _), A0, c0, A1', q1, A3', q3, rvs, ?_, ⟨fun w1 hx => ⟨hR0 w1 (fun x h => hx x (by simp at h; simp [h])), ⟨hrl, hown.rd (hx _ (by simp)), fun i hi => ?_⟩, hown3.rd (hx _ (by simp))⟩⟩⟩
          · rw [hkk, ← ch12_len ch, hk3']; rfl
          · rw [ch12_len] at hi
            obtain ⟨A', c', X, h1, h2, h3⟩ := hrs i (by omega)
            rw [ch12_get (by omega) (by omega)]
            exact ⟨A', c', h1, h3 w1 (fun x h => hx x (by simp at h; subst h; simp [h2]))⟩

end Go.Proofs.YtgeahmmepfmcoaaDoor
