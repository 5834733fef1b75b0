/- parts of the proofs of the bath statements -/
import Derived.Test.YtgeahmmepfmcoaaDoorCommon
import Derived.Test.YtgeahmmepfmcoaaDoorCore10
import Derived.Test.YtgeahmmepfmcoaaDoorCount
import Derived.Test.YtgeahmmepfmcoaaDoorTable
namespace Go.Proofs.YtgeahmmepfmcoaaDoor
open Go Go.RowKit L
set_option linter.unusedVariables false
set_option linter.unusedSimpArgs false

/-- row i of the table of longest common subsequences -/
def lcRow (u v : List UInt8) (i : Nat) : List Int := mkT (v.length + 1) fun x => (lc (u.drop i) (v.drop x) : Nat)
/-- .. of which the elements from r on are there -/
def lcCur (u v : List UInt8) (i r : Nat) : List Int := mkT (v.length + 1) fun x => if r ≤ x then ((lc (u.drop i) (v.drop x) : Nat) : Int) else 0
theorem lcCur_start (u v : List UInt8) (i : Nat) : List.replicate (v.length + 1) (Value.int .i64 0) = I (lcCur u v i v.length) := by
  rw [I_rep, mkT_rep]
  congr 1
  refine mkT_congr fun k hk => ?_
  split
  · rw [List.drop_of_length_le (by omega : v.length ≤ k), lc_nilr]; rfl
  · rfl
theorem lcCur_full (u v : List UInt8) (i : Nat) : lcCur u v i 0 = lcRow u v i := mkT_congr fun k hk => by rw [if_pos (Nat.zero_le _)]
theorem lcCur_end {u v : List UInt8} {i r : Nat} (h : u.length ≤ i) : lcCur u v i r = lcRow u v i := mkT_congr fun k hk => by
  rw [List.drop_of_length_le h, lc_nill]; split <;> rfl
theorem lcCur_any {u v : List UInt8} {i r : Nat} (h : r = 0 ∨ u.length ≤ i) : lcCur u v i r = lcRow u v i := by
  rcases h with rfl | h
  · exact lcCur_full u v i
  · exact lcCur_end h
theorem lcCur_next {u v : List UInt8} {i j : Nat} : lcCur u v i j = (lcCur u v i (j + 1)).set j ((lc (u.drop i) (v.drop j) : Nat) : Int) := by
  rw [lcCur, lcCur, mkT_set]
  refine mkT_congr fun k hk => ?_
  by_cases e : k = j
  · subst e; rw [if_pos (Nat.le_refl _), if_pos rfl]
  · rw [if_neg e]
    by_cases h : j ≤ k
    · rw [if_pos h, if_pos (by omega)]
    · rw [if_neg h, if_neg (by omega)]
theorem lc_at {u v : List UInt8} {i j : Nat} (hi : i < u.length) (hj : j < v.length) : ((lc (u.drop i) (v.drop j) : Nat) : Int) =
    if ((u.getD i 0).toNat : Int) = ((v.getD j 0).toNat : Int) then max (max ((lc (u.drop (i + 1)) (v.drop j) : Nat) : Int) ((lc (u.drop i) (v.drop (j + 1)) : Nat) : Int)) (((lc (u.drop (i + 1)) (v.drop (j + 1)) : Nat) : Int) + 1) else max ((lc (u.drop (i + 1)) (v.drop j) : Nat) : Int) ((lc (u.drop i) (v.drop (j + 1)) : Nat) : Int) := by
  have e1 : u.drop i = u.getD i 0 :: u.drop (i + 1) := by rw [List.drop_eq_getElem_cons hi]; simp [hi]
  have e2 : v.drop j = v.getD j 0 :: v.drop (j + 1) := by rw [List.drop_eq_getElem_cons hj]; simp [hj]
  have h := lc_cons (u.getD i 0) (v.getD j 0) (u.drop (i + 1)) (v.drop (j + 1))
  rw [← e1, ← e2] at h
  rw [h]
  by_cases e : u.getD i 0 = v.getD j 0
  · rw [if_pos e, if_pos (by rw [e])]; omega
  · rw [if_neg e, if_neg (fun hh => e (UInt8.toNat_inj.1 (by omega)))]; omega
theorem lcRow_get {u v : List UInt8} {i j : Nat} (h : j < v.length + 1) : (lcRow u v i).getD j 0 = ((lc (u.drop i) (v.drop j) : Nat) : Int) := mkT_get h
theorem lcCur_get {u v : List UInt8} {i r j : Nat} (h : j < v.length + 1) (hr : r ≤ j) : (lcCur u v i r).getD j 0 = ((lc (u.drop i) (v.drop j) : Nat) : Int) := by
  rw [lcCur, mkT_get h, if_pos hr]
@[simp] theorem lcRow_length (u v : List UInt8) (i : Nat) : (lcRow u v i).length = v.length + 1 := mkT_length _ _
@[simp] theorem lcCur_length (u v : List UInt8) (i r : Nat) : (lcCur u v i r).length = v.length + 1 := mkT_length _ _
theorem lc_small {u : List UInt8} (hu : u.length ≤ 8) (i : Nat) (y : List UInt8) : lc (u.drop i) y ≤ 8 := by
  have := lc_le (u.drop i) y
  rw [List.length_drop] at this; omega
theorem begins_at {c : UInt8} {u v : List UInt8} {a b : Nat} (h1 : behind c u = some (u.drop (a + 1))) (h2 : behind c v = some (v.drop (b + 1))) : begins u v c = decide (lc (u.drop (a + 1)) (v.drop (b + 1)) + 1 = lc u v) := by
  unfold begins; rw [h1, h2]
theorem begins_no {c : UInt8} {u v : List UInt8} (h : behind c u = none ∨ behind c v = none) : begins u v c = false := by
  unfold begins
  rcases h with h | h
  · rw [h]
  · rw [h]; cases behind c u <;> rfl

theorem common_spec (w : World) (u v : List UInt8) (hu : u.length ≤ 8) (hv : v.length ≤ 8) :
    Calls Tryd.prog 61 #[.string ⟨u.toArray⟩, .string ⟨v.toArray⟩] w fun e w' => ∃ x D, e = .returned x ∧ St w D w' ∧ ∃ b bs, x = .slice (some ⟨b, 0, none⟩) (u.length + 1) (u.length + 1) ∧ bs.length = u.length + 1 ∧ D = .c b 34 (bs.map (rowV (v.length + 1))) :: rowsE 3 (lcRow u v) 0 bs := by
  refine calls (args := [.string ⟨u.toArray⟩, .string ⟨v.toArray⟩]) Tryd.func61 rfl Tryd.ntmps61 (Nat.le_of_ble_eq_true rfl) (St.refl w) ?_
  refine J_seq ?_
  refine J_region ?_
  refine V_asg (.n _) rfl rfl ?_   -- 0.0
  refine V_sub [(0, _), (1, _), (4, _)] ⟨rfl, rfl, rfl, trivial⟩ ?_
  refine V_nil (.inl rfl) ?_
  refine E_then ?_
  refine J_seq ?_
  refine J_region ?_
  refine V_mov (.n _) rfl rfl ?_   -- 1.0
  refine V_slen (.n _) Tryd.underlying9 rfl rfl ?_   -- 1.1
  refine V_add (.n _) rfl rfl (wrap_ok (by omega)) rfl ?_   -- 1.2
  rw [show (((u.length : Nat) : Int) + 1) = ((u.length + 1 : Nat) : Int) by omega]
  refine V_make1 (.n _) Tryd.underlying45 Tryd.typeInfo34 rfl rfl rfl rfl rfl rfl (by omega) rfl (fun _ => trivial) (fun b11 => ?_)   -- 1.3
  refine V_asg (.n _) rfl rfl ?_   -- 1.4
  refine V_sub [(0, _), (1, _), (4, _), (5, _)] ⟨rfl, rfl, rfl, rfl, trivial⟩ ?_
  refine V_nil (.inl rfl) ?_
  refine E_then ?_
  refine J_seq ?_
  refine J_seq ?_
  refine J_region ?_
  refine V_mov (.n _) rfl rfl ?_   -- 2.0
  refine V_slen (.n _) Tryd.underlying9 rfl rfl ?_   -- 2.1
  refine V_asg (.n _) rfl rfl ?_   -- 2.2
  refine V_sub [(0, _), (1, _), (4, _), (5, _), (6, _)] ⟨rfl, rfl, rfl, rfl, rfl, trivial⟩ ?_
  refine V_nil (.inl rfl) ?_
  refine E_then ?_
  refine J_block ?_
  -- loop L0
  refine J_loop (X := Nat × List Nat) (fun x => [(0, (.string ⟨u.toArray⟩)), (1, (.string ⟨v.toArray⟩)), (4, (.slice none 0 0)), (5, (.slice (some ⟨b11, 0, none⟩) (u.length + 1) (u.length + 1))), (6, .int .i64 ((x.1 : Nat) - 1 : Int))]) (fun x => .c b11 34 (List.replicate x.1 (.slice none 0 0) ++ x.2.map (rowV (v.length + 1))) :: rowsE 3 (lcRow u v) x.1 x.2) (fun x => x.1 ≤ u.length + 1 ∧ x.2.length = u.length + 1 - x.1) (fun x => x.1) (u.length + 1, []) (by refine ⟨?_, ?_, ?_, ?_, ?_, trivial⟩ <;> first | rfl | exact int_eq (by omega)) (fun w h => by rw [List.map_nil, List.append_nil]; exact h) ?_ ?_
  · exact ⟨Nat.le_refl _, by simp⟩
  · rintro ⟨q, bs⟩ ⟨hq, hbs⟩
    dsimp only at hq hbs ⊢
    refine J_seq ?_
    refine J_seq ?_
    refine J_region ?_
    refine V_mov (.n _) rfl rfl ?_   -- 3.0
    refine V_geq (.n _) rfl rfl rfl ?_   -- 3.1
    refine V_sub [(0, _), (1, _), (4, _), (5, _), (6, _), (15, _)] ⟨rfl, rfl, rfl, rfl, rfl, rfl, trivial⟩ ?_
    refine V_nil (.inl rfl) ?_
    refine E_then ?_
    refine J_cond rfl (fun h1 => ?_) (fun h1 => ?_)   -- C0
    · obtain ⟨i, rfl⟩ : ∃ i, q = i + 1 := ⟨q - 1, by omega⟩
      rw [show (((i + 1 : Nat) : Int) - 1) = (i : Int) by omega]
      refine J_skip ?_
      refine E_then ?_
      refine J_seq ?_
      refine J_block ?_
      refine J_seq ?_
      refine J_region ?_
      refine V_mov (.n _) rfl rfl ?_   -- 5.0
      refine V_mov (.n _) rfl rfl ?_   -- 5.1
      refine V_mov (.n _) rfl rfl ?_   -- 5.2
      refine V_slen (.n _) Tryd.underlying9 rfl rfl ?_   -- 5.3
      refine V_add (.n _) rfl rfl (wrap_ok (by omega)) rfl ?_   -- 5.4
      rw [show (((v.length : Nat) : Int) + 1) = ((v.length + 1 : Nat) : Int) by omega]
      refine V_make1 (.n _) Tryd.underlying34 Tryd.typeInfo3 rfl rfl rfl rfl rfl rfl (by omega) rfl (fun _ => trivial) (fun b23 => ?_)   -- 5.5
      refine V_ix (.n _) Tryd.underlying45 Tryd.sizeOf34 rfl rfl (by omega) (by omega) rfl ?_   -- 5.6
      refine V_st (cs' := List.replicate i (.slice none 0 0) ++ (b23 :: bs).map (rowV (v.length + 1))) (.n _) Tryd.sizeOf34 rfl rfl rfl (.s .z) grid_set (by simp; omega) ?_   -- 5.7
      refine V_sub [(0, _), (1, _), (4, _), (5, _), (6, _), (15, _)] ⟨rfl, rfl, rfl, rfl, rfl, rfl, trivial⟩ ?_
      refine V_nil (.inl rfl) ?_
      refine E_then ?_
      refine J_seq ?_
      refine J_region ?_
      refine V_mov (.n _) rfl rfl ?_   -- 6.0
      refine V_slen (.n _) Tryd.underlying9 rfl rfl ?_   -- 6.1
      refine V_sub1 (.n _) rfl rfl (wrap_ok (by omega)) rfl ?_   -- 6.2
      refine V_asg (.n _) rfl rfl ?_   -- 6.3
      refine V_sub [(0, _), (1, _), (4, _), (5, _), (6, _), (7, _), (15, _)] ⟨rfl, rfl, rfl, rfl, rfl, rfl, rfl, trivial⟩ ?_
      refine V_nil (.inl rfl) ?_
      refine E_then ?_
      refine J_block ?_
      -- loop L1
      refine J_loop (X := Nat) (fun r => [(0, (.string ⟨u.toArray⟩)), (1, (.string ⟨v.toArray⟩)), (4, (.slice none 0 0)), (5, (.slice (some ⟨b11, 0, none⟩) (u.length + 1) (u.length + 1))), (6, .int .i64 (i : Nat)), (7, .int .i64 ((r : Nat) - 1 : Int))]) (fun r => .c b23 3 (I (lcCur u v i r)) :: .c b11 34 (List.replicate i (.slice none 0 0) ++ (b23 :: bs).map (rowV (v.length + 1))) :: rowsE 3 (lcRow u v) (i + 1) bs) (fun r => r ≤ v.length) (fun r => r) (v.length) (by refine ⟨?_, ?_, ?_, ?_, ?_, ?_, trivial⟩ <;> first | rfl | exact int_eq (by omega)) (fun w h => by rw [← lcCur_start]; exact h) ?_ ?_
      · omega
      · intro r hr
        refine J_seq ?_
        refine J_seq ?_
        refine J_region ?_
        refine V_mov (.n _) rfl rfl ?_   -- 7.0
        refine V_geq (.n _) rfl rfl rfl ?_   -- 7.1
        refine V_mov (.n _) rfl rfl ?_   -- 7.2
        refine V_split 30 rfl (fun h2 => ?_) (fun h2 => ?_)   -- guard 7.2
        · skip
          refine V_go (2, true) rfl ?_
          refine V_mov (.n _) rfl rfl ?_   -- 7.3
          refine V_go (2, true) rfl ?_
          refine V_mov (.n _) rfl rfl ?_   -- 7.4
          refine V_go (2, true) rfl ?_
          refine V_slen (.n _) Tryd.underlying9 rfl rfl ?_   -- 7.5
          refine V_go (2, true) rfl ?_
          refine V_lss (.n _) rfl rfl rfl ?_   -- 7.6
          refine V_pickT (.n _) rfl rfl rfl ?_   -- 7.7
          refine V_sub [(0, _), (1, _), (4, _), (5, _), (6, _), (7, _), (35, _)] ⟨rfl, rfl, rfl, rfl, rfl, rfl, rfl, trivial⟩ ?_
          refine V_nil (.inl rfl) ?_
          refine E_then ?_
          refine J_cond rfl (fun h3 => ?_) (fun h3 => ?_)   -- C1
          · obtain ⟨j, rfl⟩ : ∃ j, r = j + 1 := ⟨r - 1, by omega⟩
            rw [show (((j + 1 : Nat) : Int) - 1) = (j : Int) by omega]
            obtain ⟨b1, bs1, rfl⟩ : ∃ b1 bs1, bs = b1 :: bs1 := by cases bs with | nil => (simp at hbs; omega) | cons b1 bs1 => exact ⟨b1, bs1, rfl⟩
            have hat := lc_at (u := u) (v := v) (i := i) (j := j) (by omega) (by omega)
            have q1 := lc_small (u := u) hu (i + 1) (v.drop j)
            have q2 := lc_small (u := u) hu i (v.drop (j + 1))
            have q3 := lc_small (u := u) hu (i + 1) (v.drop (j + 1))
            refine J_skip ?_
            refine E_then ?_
            refine J_seq ?_
            refine J_block ?_
            refine J_seq ?_
            refine J_draw (Gs := _) (cl := [.p, .p, .p, .r, .p, .p, .p, .p, .p, .r, .p, .p, .r, .p, .p, .p, .r, .p, .p, .p, .r, .p, .p, .w]) (by kernel_rfl) (fun _ _ h => h) ?_
            refine V_mov (.s _ _ _) rfl rfl ?_   -- 9.0
            refine V_mov (.s _ _ _) rfl rfl ?_   -- 9.1
            refine V_ix (.s _ _ _) Tryd.underlying45 Tryd.sizeOf34 rfl rfl (by omega) (by omega) rfl ?_   -- 9.2
            refine V_ld (.s _ _ _) Tryd.isAgg34 rfl (by repeat (first | exact List.Mem.head _ | assumption | apply List.Mem.tail)) grid_get0 rfl ?_   -- 9.3
            refine V_mov (.s _ _ _) rfl rfl ?_   -- 9.4
            refine V_mov (.s _ _ _) rfl rfl ?_   -- 9.5
            refine V_mov (.s _ _ _) rfl rfl ?_   -- 9.6
            refine V_add (.s _ _ _) rfl rfl (wrap_ok (by omega)) rfl ?_   -- 9.7
            rw [show (((i : Nat) : Int) + 1) = ((i + 1 : Nat) : Int) by omega]
            refine V_ix (.s _ _ _) Tryd.underlying45 Tryd.sizeOf34 rfl rfl (by omega) (by omega) rfl ?_   -- 9.8
            refine V_ld (.s _ _ _) Tryd.isAgg34 rfl (by repeat (first | exact List.Mem.head _ | assumption | apply List.Mem.tail)) grid_get1 rfl ?_   -- 9.9
            refine V_mov (.s _ _ _) rfl rfl ?_   -- 9.10
            refine V_ix (.s _ _ _) Tryd.underlying34 Tryd.sizeOf3 rfl rfl (by omega) (by omega) rfl ?_   -- 9.11
            refine V_ld (.s _ _ _) Tryd.isAgg3 rfl (by repeat (first | exact List.Mem.head _ | assumption | apply List.Mem.tail)) (I_getN (xs := lcRow u v (i + 1)) (i := j) (by simp; omega)) rfl ?_   -- 9.12
            rw [lcRow_get (by omega)]
            refine V_mov (.s _ _ _) rfl rfl ?_   -- 9.13
            refine V_mov (.s _ _ _) rfl rfl ?_   -- 9.14
            refine V_ix (.s _ _ _) Tryd.underlying45 Tryd.sizeOf34 rfl rfl (by omega) (by omega) rfl ?_   -- 9.15
            refine V_ld (.s _ _ _) Tryd.isAgg34 rfl (by repeat (first | exact List.Mem.head _ | assumption | apply List.Mem.tail)) grid_get0 rfl ?_   -- 9.16
            refine V_mov (.s _ _ _) rfl rfl ?_   -- 9.17
            refine V_add (.s _ _ _) rfl rfl (wrap_ok (by omega)) rfl ?_   -- 9.18
            rw [show (((j : Nat) : Int) + 1) = ((j + 1 : Nat) : Int) by omega]
            refine V_ix (.s _ _ _) Tryd.underlying34 Tryd.sizeOf3 rfl rfl (by omega) (by omega) rfl ?_   -- 9.19
            refine V_ld (.s _ _ _) Tryd.isAgg3 rfl (by repeat (first | exact List.Mem.head _ | assumption | apply List.Mem.tail)) (I_getN (xs := lcCur u v i (j + 1)) (i := (j + 1)) (by simp; omega)) rfl ?_   -- 9.20
            rw [lcCur_get (by omega) (by omega)]
            refine V_max (.s _ _ _) rfl rfl rfl ?_   -- 9.21
            refine V_ix (.s _ _ _) Tryd.underlying34 Tryd.sizeOf3 rfl rfl (by omega) (by omega) rfl ?_   -- 9.22
            refine V_st (cs' := I ((lcCur u v i (j + 1)).set j (max ((lc (u.drop (i + 1)) (v.drop j) : Nat) : Int) ((lc (u.drop i) (v.drop (j + 1)) : Nat) : Int)))) (.s _ _ _) Tryd.sizeOf3 rfl rfl rfl .z (by rw [toN]; exact I_set _ _ _) (by simp; omega) ?_   -- 9.23
            refine V_sub [(0, _), (1, _), (4, _), (5, _), (6, _), (7, _), (35, _)] ⟨rfl, rfl, rfl, rfl, rfl, rfl, rfl, trivial⟩ ?_
            refine V_nil (.inr ⟨_, rfl⟩) ?_
            refine E_then ?_
            refine J_seq ?_
            refine J_draw (Gs := _) (cl := [.p, .p, .p, .p, .p, .p, .p]) (by kernel_rfl) (fun _ _ h => h) ?_
            refine V_mov (.s _ _ _) rfl rfl ?_   -- 10.0
            refine V_mov (.s _ _ _) rfl rfl ?_   -- 10.1
            refine V_sidx (p := u) (.s _ _ _) Tryd.underlying9 rfl rfl (by omega) (by omega) rfl ?_   -- 10.2
            refine V_mov (.s _ _ _) rfl rfl ?_   -- 10.3
            refine V_mov (.s _ _ _) rfl rfl ?_   -- 10.4
            refine V_sidx (p := v) (.s _ _ _) Tryd.underlying9 rfl rfl (by omega) (by omega) rfl ?_   -- 10.5
            refine V_eql (.s _ _ _) rfl rfl rfl ?_   -- 10.6
            refine V_sub [(0, _), (1, _), (4, _), (5, _), (6, _), (7, _), (35, _), (67, _)] ⟨rfl, rfl, rfl, rfl, rfl, rfl, rfl, rfl, trivial⟩ ?_
            refine V_nil (.inr ⟨_, rfl⟩) ?_
            refine E_then ?_
            refine J_cond rfl (fun h4 => ?_) (fun h4 => ?_)   -- C2
            · skip
              refine J_draw (Gs := _) (cl := [.p, .p, .p, .r, .p, .p, .p, .p, .r, .p, .p, .r, .p, .p, .p, .p, .r, .p, .p, .p, .r, .p, .p, .p, .w]) (by kernel_rfl) (fun _ _ h => h) ?_
              refine V_mov (.s _ _ _) rfl rfl ?_   -- 11.0
              refine V_mov (.s _ _ _) rfl rfl ?_   -- 11.1
              refine V_ix (.s _ _ _) Tryd.underlying45 Tryd.sizeOf34 rfl rfl (by omega) (by omega) rfl ?_   -- 11.2
              refine V_ld (.s _ _ _) Tryd.isAgg34 rfl (by repeat (first | exact List.Mem.head _ | assumption | apply List.Mem.tail)) grid_get0 rfl ?_   -- 11.3
              refine V_mov (.s _ _ _) rfl rfl ?_   -- 11.4
              refine V_mov (.s _ _ _) rfl rfl ?_   -- 11.5
              refine V_mov (.s _ _ _) rfl rfl ?_   -- 11.6
              refine V_ix (.s _ _ _) Tryd.underlying45 Tryd.sizeOf34 rfl rfl (by omega) (by omega) rfl ?_   -- 11.7
              refine V_ld (.s _ _ _) Tryd.isAgg34 rfl (by repeat (first | exact List.Mem.head _ | assumption | apply List.Mem.tail)) grid_get0 rfl ?_   -- 11.8
              refine V_mov (.s _ _ _) rfl rfl ?_   -- 11.9
              refine V_ix (.s _ _ _) Tryd.underlying34 Tryd.sizeOf3 rfl rfl (by omega) (by omega) rfl ?_   -- 11.10
              refine V_ld (.s _ _ _) Tryd.isAgg3 rfl (by repeat (first | exact List.Mem.head _ | assumption | apply List.Mem.tail)) (I_getN (i := j) (by simp; omega)) rfl ?_   -- 11.11
              rw [getD_set, if_pos ⟨rfl, by simp; omega⟩]
              refine V_mov (.s _ _ _) rfl rfl ?_   -- 11.12
              refine V_mov (.s _ _ _) rfl rfl ?_   -- 11.13
              refine V_add (.s _ _ _) rfl rfl (wrap_ok (by omega)) rfl ?_   -- 11.14
              rw [show (((i : Nat) : Int) + 1) = ((i + 1 : Nat) : Int) by omega]
              refine V_ix (.s _ _ _) Tryd.underlying45 Tryd.sizeOf34 rfl rfl (by omega) (by omega) rfl ?_   -- 11.15
              refine V_ld (.s _ _ _) Tryd.isAgg34 rfl (by repeat (first | exact List.Mem.head _ | assumption | apply List.Mem.tail)) grid_get1 rfl ?_   -- 11.16
              refine V_mov (.s _ _ _) rfl rfl ?_   -- 11.17
              refine V_add (.s _ _ _) rfl rfl (wrap_ok (by omega)) rfl ?_   -- 11.18
              rw [show (((j : Nat) : Int) + 1) = ((j + 1 : Nat) : Int) by omega]
              refine V_ix (.s _ _ _) Tryd.underlying34 Tryd.sizeOf3 rfl rfl (by omega) (by omega) rfl ?_   -- 11.19
              refine V_ld (.s _ _ _) Tryd.isAgg3 rfl (by repeat (first | exact List.Mem.head _ | assumption | apply List.Mem.tail)) (I_getN (xs := lcRow u v (i + 1)) (i := (j + 1)) (by simp; omega)) rfl ?_   -- 11.20
              rw [lcRow_get (by omega)]
              refine V_add (.s _ _ _) rfl rfl (wrap_ok (by omega)) rfl ?_   -- 11.21
              refine V_max (.s _ _ _) rfl rfl rfl ?_   -- 11.22
              refine V_ix (.s _ _ _) Tryd.underlying34 Tryd.sizeOf3 rfl rfl (by omega) (by omega) rfl ?_   -- 11.23
              refine V_st (cs' := I (((lcCur u v i (j + 1)).set j (max ((lc (u.drop (i + 1)) (v.drop j) : Nat) : Int) ((lc (u.drop i) (v.drop (j + 1)) : Nat) : Int))).set j (max (max ((lc (u.drop (i + 1)) (v.drop j) : Nat) : Int) ((lc (u.drop i) (v.drop (j + 1)) : Nat) : Int)) (((lc (u.drop (i + 1)) (v.drop (j + 1)) : Nat) : Int) + 1)))) (.s _ _ _) Tryd.sizeOf3 rfl rfl rfl .z (by rw [toN]; exact I_set _ _ _) (by simp; omega) ?_   -- 11.24
              refine V_sub [(0, _), (1, _), (4, _), (5, _), (6, _), (7, _), (35, _), (67, _)] ⟨rfl, rfl, rfl, rfl, rfl, rfl, rfl, rfl, trivial⟩ ?_
              refine V_nil (.inr ⟨_, rfl⟩) ?_
              refine E_blk ?_
              refine E_then ?_
              refine J_region ?_
              refine V_mov (.n _) rfl rfl ?_   -- 8.0
              refine V_sub1 (.n _) rfl rfl (wrap_ok (by omega)) rfl ?_   -- 8.1
              refine V_asg (.n _) rfl rfl ?_   -- 8.2
              refine V_sub [(0, _), (1, _), (4, _), (5, _), (6, _), (7, _), (35, _), (67, _)] ⟨rfl, rfl, rfl, rfl, rfl, rfl, rfl, rfl, trivial⟩ ?_
              refine V_nil (.inl rfl) ?_
              -- again L1 0
              refine E_again (j) ?_ ?_ ?_ (fun w h => by rw [List.set_set] at h; rw [lcCur_next, hat, if_pos (by assumption)]; exact h)
              · omega
              · omega
              · refine ⟨?_, ?_, ?_, ?_, ?_, ?_, trivial⟩ <;> first | rfl | exact int_eq (by omega) | exact int_eq (by dsimp only; omega)
            · skip
              refine J_skip ?_
              refine E_blk ?_
              refine E_then ?_
              refine J_region ?_
              refine V_mov (.n _) rfl rfl ?_   -- 8.0
              refine V_sub1 (.n _) rfl rfl (wrap_ok (by omega)) rfl ?_   -- 8.1
              refine V_asg (.n _) rfl rfl ?_   -- 8.2
              refine V_sub [(0, _), (1, _), (4, _), (5, _), (6, _), (7, _), (35, _), (67, _)] ⟨rfl, rfl, rfl, rfl, rfl, rfl, rfl, rfl, trivial⟩ ?_
              refine V_nil (.inl rfl) ?_
              -- again L1 1
              refine E_again (j) ?_ ?_ ?_ (fun w h => by rw [lcCur_next, hat, if_neg (by assumption)]; exact h)
              · omega
              · omega
              · refine ⟨?_, ?_, ?_, ?_, ?_, ?_, trivial⟩ <;> first | rfl | exact int_eq (by omega) | exact int_eq (by dsimp only; omega)
          · skip
            refine J_exit ?_
            refine E_then_exit ?_
            refine E_lp_exit ?_
            refine E_blk_hit ?_
            refine E_blk ?_
            refine E_then ?_
            refine J_region ?_
            refine V_mov (.n _) rfl rfl ?_   -- 4.0
            refine V_sub1 (.n _) rfl rfl (wrap_ok (by omega)) rfl ?_   -- 4.1
            refine V_asg (.n _) rfl rfl ?_   -- 4.2
            refine V_sub [(0, _), (1, _), (4, _), (5, _), (6, _), (7, _), (35, _)] ⟨rfl, rfl, rfl, rfl, rfl, rfl, rfl, trivial⟩ ?_
            refine V_nil (.inl rfl) ?_
            -- again L0 0
            have hrow := lcCur_any (u := u) (v := v) (show r = 0 ∨ u.length ≤ i by omega)
            rw [hrow]
            refine E_again (X := Nat × List Nat) (KI := fun x => [(0, (.string ⟨u.toArray⟩)), (1, (.string ⟨v.toArray⟩)), (4, (.slice none 0 0)), (5, (.slice (some ⟨b11, 0, none⟩) (u.length + 1) (u.length + 1))), (6, .int .i64 ((x.1 : Nat) - 1 : Int))]) (GI := fun x => .c b11 34 (List.replicate x.1 (.slice none 0 0) ++ x.2.map (rowV (v.length + 1))) :: rowsE 3 (lcRow u v) x.1 x.2) (I := fun x => x.1 ≤ u.length + 1 ∧ x.2.length = u.length + 1 - x.1) (μ := fun x => x.1) (x := (i + 1, bs)) ((i, b23 :: bs)) ?_ ?_ ?_ (fun w h => h.perm (List.Perm.swap _ _ _))
            · show i < i + 1; omega
            · exact ⟨by dsimp only; omega, by simp; omega⟩
            · refine ⟨?_, ?_, ?_, ?_, ?_, trivial⟩ <;> first | rfl | exact int_eq (by omega) | exact int_eq (by dsimp only; omega)
        · skip
          refine V_pass (.n .p) (2, true) rfl rfl ?_   -- 7.3
          refine V_pass (.n .p) (2, true) rfl rfl ?_   -- 7.4
          refine V_pass (.n .p) (2, true) rfl rfl ?_   -- 7.5
          refine V_pass (.n .p) (2, true) rfl rfl ?_   -- 7.6
          refine V_pickF (.n _) rfl rfl rfl ?_   -- 7.7
          refine V_sub [(0, _), (1, _), (4, _), (5, _), (6, _), (7, _), (35, _)] ⟨rfl, rfl, rfl, rfl, rfl, rfl, rfl, trivial⟩ ?_
          refine V_nil (.inl rfl) ?_
          refine E_then ?_
          refine J_condF rfl ?_
          refine J_exit ?_
          refine E_then_exit ?_
          refine E_lp_exit ?_
          refine E_blk_hit ?_
          refine E_blk ?_
          refine E_then ?_
          refine J_region ?_
          refine V_mov (.n _) rfl rfl ?_   -- 4.0
          refine V_sub1 (.n _) rfl rfl (wrap_ok (by omega)) rfl ?_   -- 4.1
          refine V_asg (.n _) rfl rfl ?_   -- 4.2
          refine V_sub [(0, _), (1, _), (4, _), (5, _), (6, _), (7, _), (35, _)] ⟨rfl, rfl, rfl, rfl, rfl, rfl, rfl, trivial⟩ ?_
          refine V_nil (.inl rfl) ?_
          -- again L0 1
          have hrow := lcCur_any (u := u) (v := v) (show r = 0 ∨ u.length ≤ i by omega)
          rw [hrow]
          refine E_again (X := Nat × List Nat) (KI := fun x => [(0, (.string ⟨u.toArray⟩)), (1, (.string ⟨v.toArray⟩)), (4, (.slice none 0 0)), (5, (.slice (some ⟨b11, 0, none⟩) (u.length + 1) (u.length + 1))), (6, .int .i64 ((x.1 : Nat) - 1 : Int))]) (GI := fun x => .c b11 34 (List.replicate x.1 (.slice none 0 0) ++ x.2.map (rowV (v.length + 1))) :: rowsE 3 (lcRow u v) x.1 x.2) (I := fun x => x.1 ≤ u.length + 1 ∧ x.2.length = u.length + 1 - x.1) (μ := fun x => x.1) (x := (i + 1, bs)) ((i, b23 :: bs)) ?_ ?_ ?_ (fun w h => h.perm (List.Perm.swap _ _ _))
          · show i < i + 1; omega
          · exact ⟨by dsimp only; omega, by simp; omega⟩
          · refine ⟨?_, ?_, ?_, ?_, ?_, trivial⟩ <;> first | rfl | exact int_eq (by omega) | exact int_eq (by dsimp only; omega)
    · skip
      refine J_exit ?_
      refine E_then_exit ?_
      refine E_lp_exit ?_
      refine E_blk_hit ?_
      refine E_then ?_
      refine J_seq ?_
      refine J_region ?_
      refine V_mov (.n _) rfl rfl ?_   -- 12.0
      refine V_asg (.n _) rfl rfl ?_   -- 12.1
      refine V_sub [(0, _), (1, _), (4, _), (5, _), (6, _), (15, _)] ⟨rfl, rfl, rfl, rfl, rfl, rfl, trivial⟩ ?_
      refine V_nil (.inl rfl) ?_
      refine E_then ?_
      refine J_ret ?_
      -- return R0
      refine E_ret1 Tryd.results61 rfl (fun w hw => ?_)
      obtain rfl : q = 0 := by omega
      exact ⟨_, _, rfl, hw, b11, bs, rfl, by omega, rfl⟩


theorem find_no {g : UInt8 → Bool} {c : UInt8} (h : ∀ x, x < 8 → g (letters.getD x 0) = false) : letters.find? g ≠ some c := by
  intro hf
  have h1 := List.find?_some hf
  obtain ⟨j, hj, rfl⟩ := List.mem_iff_getElem.1 (List.mem_of_find?_eq_some hf)
  have := h j hj
  simp [hj, h1] at this

theorem RefCommon_spec (w : World) (u v : List UInt8) : Calls Tryd.prog 20 #[.string ⟨u.toArray⟩, .string ⟨v.toArray⟩] w fun e w' => e = .returned (.tuple #[.string ⟨(comR u v).1.toArray⟩, .int .i64 (comR u v).2]) ∧ St w [] w' := by
  refine calls (args := [.string ⟨u.toArray⟩, .string ⟨v.toArray⟩]) Tryd.func20 rfl Tryd.ntmps20 (Nat.le_of_ble_eq_true rfl) (St.refl w) ?_
  refine J_seq ?_
  refine J_region ?_
  refine V_asg (.n _) rfl rfl ?_   -- 0.0
  refine V_asg (.n _) rfl rfl ?_   -- 0.1
  refine V_sub [(0, _), (1, _), (4, _), (5, _)] ⟨rfl, rfl, rfl, rfl, trivial⟩ ?_
  refine V_nil (.inl rfl) ?_
  refine E_then ?_
  refine J_seq ?_
  refine J_seq ?_
  refine J_region ?_
  refine V_mov (.n _) rfl rfl ?_   -- 1.0
  refine V_call0 (.n _) Tryd.call21 (.cons rfl .nil) (fun w1 hw1 => Word_spec w1 u) rfl trivial ?_   -- 1.1
  refine V_notB (.n _) rfl rfl ?_   -- 1.2
  refine V_mov (.n _) rfl rfl ?_   -- 1.3
  refine V_splitB 16 rfl (fun h1 => ?_) (fun h1 => ?_)   -- guard 1.3
  · skip
    refine V_pass (.n .p) (3, false) rfl rfl ?_   -- 1.4
    refine V_pass (.n .p) (3, false) rfl rfl ?_   -- 1.5
    refine V_pass (.n .p) (3, false) rfl rfl ?_   -- 1.6
    refine V_pickT (.n _) rfl rfl rfl ?_   -- 1.7
    refine V_sub [(0, _), (1, _), (4, _), (5, _), (20, _)] ⟨rfl, rfl, rfl, rfl, rfl, trivial⟩ ?_
    refine V_nil (.inl rfl) ?_
    refine E_then ?_
    refine J_condT rfl ?_
    refine J_seq ?_
    refine J_region ?_
    refine V_asg (.n _) rfl rfl ?_   -- 2.0
    refine V_asg (.n _) rfl rfl ?_   -- 2.1
    refine V_sub [(0, _), (1, _), (4, _), (5, _), (20, _)] ⟨rfl, rfl, rfl, rfl, rfl, trivial⟩ ?_
    refine V_nil (.inl rfl) ?_
    refine E_then ?_
    refine J_ret ?_
    refine E_then_ret ?_
    -- return R0
    refine E_ret2 Tryd.results20 rfl rfl (fun w hw => ?_)
    exact ⟨by rw [comR, if_neg (fun hh => by simp_all)], hw⟩
  · skip
    refine V_go (3, false) rfl ?_
    refine V_mov (.n _) rfl rfl ?_   -- 1.4
    refine V_go (3, false) rfl ?_
    refine V_call0 (.n _) Tryd.call21 (.cons rfl .nil) (fun w1 hw1 => Word_spec w1 v) rfl trivial ?_   -- 1.5
    refine V_go (3, false) rfl ?_
    refine V_notB (.n _) rfl rfl ?_   -- 1.6
    refine V_pickF (.n _) rfl rfl rfl ?_   -- 1.7
    refine V_sub [(0, _), (1, _), (4, _), (5, _), (20, _)] ⟨rfl, rfl, rfl, rfl, rfl, trivial⟩ ?_
    refine V_nil (.inl rfl) ?_
    refine E_then ?_
    refine J_condB rfl (fun h2 => ?_) (fun h2 => ?_)   -- C0
    · skip
      refine J_seq ?_
      refine J_region ?_
      refine V_asg (.n _) rfl rfl ?_   -- 2.0
      refine V_asg (.n _) rfl rfl ?_   -- 2.1
      refine V_sub [(0, _), (1, _), (4, _), (5, _), (20, _)] ⟨rfl, rfl, rfl, rfl, rfl, trivial⟩ ?_
      refine V_nil (.inl rfl) ?_
      refine E_then ?_
      refine J_ret ?_
      refine E_then_ret ?_
      -- return R1
      refine E_ret2 Tryd.results20 rfl rfl (fun w hw => ?_)
      exact ⟨by rw [comR, if_neg (fun hh => by simp_all)], hw⟩
    · have hu : isWord u = true := by simp_all
      have hv : isWord v = true := by simp_all
      have hu8 := isWord_len hu
      have hv8 := isWord_len hv
      refine J_skip ?_
      refine E_then ?_
      refine J_seq ?_
      refine J_region ?_
      refine V_mov (.n _) rfl rfl ?_   -- 3.0
      refine V_mov (.n _) rfl rfl ?_   -- 3.1
      refine V_call (post := fun x D => ∃ b bs, x = .slice (some ⟨b, 0, none⟩) (u.length + 1) (u.length + 1) ∧ bs.length = u.length + 1 ∧ D = .c b 34 (bs.map (rowV (v.length + 1))) :: rowsE 3 (lcRow u v) 0 bs) (.n _) Tryd.call61 (.cons rfl (.cons rfl .nil)) (fun w1 hw1 => common_spec w1 u v (isWord_len hu) (isWord_len hv)) rfl trivial ?_
      rintro _ D ⟨bT, bs, rfl, hbs, rfl⟩
      refine V_asg (.n _) rfl rfl ?_   -- 3.3
      refine V_sub [(0, _), (1, _), (4, _), (5, _), (6, _), (20, _)] ⟨rfl, rfl, rfl, rfl, rfl, rfl, trivial⟩ ?_
      refine V_nil (.inl rfl) ?_
      refine E_then ?_
      refine J_seq ?_
      refine J_region ?_
      refine V_asg (.n _) rfl rfl ?_   -- 4.0
      refine V_sub [(0, _), (1, _), (4, _), (5, _), (6, _), (7, _), (20, _)] ⟨rfl, rfl, rfl, rfl, rfl, rfl, rfl, trivial⟩ ?_
      refine V_nil (.inl rfl) ?_
      refine E_then ?_
      refine J_seq ?_
      refine J_region ?_
      refine V_asg (.n _) rfl rfl ?_   -- 5.0
      refine V_asg (.n _) rfl rfl ?_   -- 5.1
      refine V_sub [(0, _), (1, _), (4, _), (5, _), (6, _), (7, _), (8, _), (9, _), (20, _)] ⟨rfl, rfl, rfl, rfl, rfl, rfl, rfl, rfl, rfl, trivial⟩ ?_
      refine V_nil (.inl rfl) ?_
      refine E_then ?_
      refine J_seq ?_
      refine J_block ?_
      -- loop L0
      refine J_loop (X := Nat × Nat × List UInt8) (fun x => [(0, (.string ⟨u.toArray⟩)), (1, (.string ⟨v.toArray⟩)), (4, (.string ⟨#[]⟩)), (5, (.int .i64 (0))), (6, (.slice (some ⟨bT, 0, none⟩) (u.length + 1) (u.length + 1))), (7, .string ⟨x.2.2.toArray⟩), (8, .int .i64 (x.1 : Nat)), (9, .int .i64 (x.2.1 : Nat))]) (fun x => .c bT 34 (bs.map (rowV (v.length + 1))) :: rowsE 3 (lcRow u v) 0 bs) (fun x => x.1 ≤ u.length ∧ x.2.1 ≤ v.length ∧ x.2.2.length ≤ x.1 ∧ x.2.2 ++ com (u.drop x.1) (v.drop x.2.1) = com u v) (fun x => u.length - x.1) (0, 0, []) (by refine ⟨?_, ?_, ?_, ?_, ?_, ?_, ?_, ?_, trivial⟩ <;> first | rfl | exact int_eq (by omega)) (fun w h => by rw [List.append_nil] at h; exact h) ?_ ?_
      · exact ⟨Nat.zero_le _, Nat.zero_le _, Nat.le_refl _, rfl⟩
      · rintro ⟨i, j, acc⟩ ⟨hi, hj, hacc, hpath⟩
        dsimp only at hi hj hacc hpath ⊢
        have qlc := lc_small (u := u) hu8 i (v.drop j)
        refine J_seq ?_
        refine J_seq ?_
        refine J_region ?_
        refine V_mov (.n _) rfl rfl ?_   -- 6.0
        refine V_mov (.n _) rfl rfl ?_   -- 6.1
        refine V_ix (.n _) Tryd.underlying45 Tryd.sizeOf34 rfl rfl (by omega) (by omega) rfl ?_   -- 6.2
        have hmem := rowsE_mem (t := 3) (Rw := lcRow u v) (bs := bs) (q := 0) (i := i) (by omega)
        rw [Nat.zero_add] at hmem
        refine V_ld (.n _) Tryd.isAgg34 rfl (by repeat (first | exact List.Mem.head _ | assumption | apply List.Mem.tail)) (rowsV_get (i := i) (by omega)) rfl ?_   -- 6.3
        refine V_mov (.n _) rfl rfl ?_   -- 6.4
        refine V_ix (.n _) Tryd.underlying34 Tryd.sizeOf3 rfl rfl (by omega) (by omega) rfl ?_   -- 6.5
        refine V_ld (.n _) Tryd.isAgg3 rfl (by repeat (first | exact List.Mem.head _ | assumption | apply List.Mem.tail)) (I_getN (xs := lcRow u v i) (i := j) (by simp; omega)) rfl ?_   -- 6.6
        rw [lcRow_get (by omega)]
        refine V_gtr (.n _) rfl rfl rfl ?_   -- 6.7
        refine V_sub [(0, _), (1, _), (4, _), (5, _), (6, _), (7, _), (8, _), (9, _), (31, _)] ⟨rfl, rfl, rfl, rfl, rfl, rfl, rfl, rfl, rfl, trivial⟩ ?_
        refine V_nil (.inl rfl) ?_
        refine E_then ?_
        refine J_cond rfl (fun h3 => ?_) (fun h3 => ?_)   -- C1
        · have hlcp : 0 < lc (u.drop i) (v.drop j) := by omega
          have hcl := (com_len _ (u.drop i) (v.drop j) (Nat.le_refl _) (fun x hx => isWord_letters hu x (List.mem_of_mem_drop hx))).2 hlcp
          refine J_skip ?_
          refine E_then ?_
          refine J_block ?_
          refine J_seq ?_
          refine J_region ?_
          refine V_mov (.n _) rfl rfl ?_   -- 7.0
          refine V_sub [(0, _), (1, _), (4, _), (5, _), (6, _), (7, _), (8, _), (9, _), (31, _), (32, _)] ⟨rfl, rfl, rfl, rfl, rfl, rfl, rfl, rfl, rfl, rfl, trivial⟩ ?_
          refine V_nil (.inl rfl) ?_
          refine E_then ?_
          refine J_block ?_
          -- loop L1
          refine J_loop (X := Nat) (fun k => [(0, (.string ⟨u.toArray⟩)), (1, (.string ⟨v.toArray⟩)), (4, (.string ⟨#[]⟩)), (5, (.int .i64 (0))), (6, (.slice (some ⟨bT, 0, none⟩) (u.length + 1) (u.length + 1))), (7, .string ⟨acc.toArray⟩), (8, .int .i64 (i : Nat)), (9, .int .i64 (j : Nat)), (32, .int .i64 (k : Nat))]) (fun k => .c bT 34 (bs.map (rowV (v.length + 1))) :: rowsE 3 (lcRow u v) 0 bs) (fun k => k ≤ 8 ∧ ∀ x, x < k → begins (u.drop i) (v.drop j) (letters.getD x 0) = false) (fun k => 8 - k) (0) (by refine ⟨?_, ?_, ?_, ?_, ?_, ?_, ?_, ?_, ?_, trivial⟩ <;> first | rfl | exact int_eq (by omega)) (fun w h => h) ?_ ?_
          · exact ⟨by omega, fun x hx => by omega⟩
          · rintro k ⟨hk, hno⟩
            refine J_seq ?_
            refine J_region ?_
            refine V_lss (.n _) rfl rfl rfl ?_   -- 8.0
            refine V_sub [(0, _), (1, _), (4, _), (5, _), (6, _), (7, _), (8, _), (9, _), (32, _), (33, _)] ⟨rfl, rfl, rfl, rfl, rfl, rfl, rfl, rfl, rfl, rfl, trivial⟩ ?_
            refine V_nil (.inl rfl) ?_
            refine E_then ?_
            refine J_seq ?_
            refine J_cond rfl (fun h4 => ?_) (fun h4 => ?_)   -- C2
            · skip
              refine J_skip ?_
              refine E_then ?_
              refine J_seq ?_
              refine J_block ?_
              refine J_seq ?_
              refine J_region ?_
              refine V_mov (.n _) rfl rfl ?_   -- 9.0
              refine V_asg (.n _) rfl rfl ?_   -- 9.1
              refine V_sub [(0, _), (1, _), (4, _), (5, _), (6, _), (7, _), (8, _), (9, _), (10, _), (32, _), (33, _)] ⟨rfl, rfl, rfl, rfl, rfl, rfl, rfl, rfl, rfl, rfl, rfl, trivial⟩ ?_
              refine V_nil (.inl rfl) ?_
              refine E_then ?_
              refine J_seq ?_
              refine J_draw (Gs := _) (cl := [.p, .p, .p, .p, .p, (.u fun v1 D => v1 = .int .i64 (Lib.indexByte (u.drop i) (letters.getD k 0)) ∧ D = []), .p, .p, .p, .p, .p, (.u fun v1 D => v1 = .int .i64 (Lib.indexByte (v.drop j) (letters.getD k 0)) ∧ D = []), .p, .p]) (by kernel_rfl) (fun _ _ h => h) ?_
              refine V_mov (.s _ _ _) rfl rfl ?_   -- 10.0
              refine V_mov (.s _ _ _) rfl rfl ?_   -- 10.1
              refine V_sslcL (p := u) (.s _ _ _) Tryd.underlying9 rfl rfl (by omega) (by omega) rfl ?_   -- 10.2
              rw [show (((i : Nat) : Int)).toNat = i by simp]
              refine V_mov (.s _ _ _) rfl rfl ?_   -- 10.3
              refine V_sidx (p := letters) (.s _ _ _) Tryd.underlying9 rfl rfl (by omega) (by show ((k : Nat) : Int) < 8; omega) rfl ?_   -- 10.4
              rw [show letters.getD ((k : Nat) : Int).toNat 0 = letters.getD k 0 by simp]
              refine V_callU (.s _ _ _) Tryd.call60 (.cons rfl (.cons rfl .nil)) (fun w1 hw1 => (idx_spec w1 (u.drop i) (letters.getD k 0)).mono fun e w2 ⟨he, hD⟩ => ⟨_, [], he, hD, rfl, rfl⟩) rfl (fun _ _ h => h.sublist (by simp)) ?_
              rintro _ _ ⟨rfl, rfl⟩
              refine V_mov (.s _ _ _) rfl rfl ?_   -- 10.6
              refine V_mov (.s _ _ _) rfl rfl ?_   -- 10.7
              refine V_sslcL (p := v) (.s _ _ _) Tryd.underlying9 rfl rfl (by omega) (by omega) rfl ?_   -- 10.8
              rw [show (((j : Nat) : Int)).toNat = j by simp]
              refine V_mov (.s _ _ _) rfl rfl ?_   -- 10.9
              refine V_sidx (p := letters) (.s _ _ _) Tryd.underlying9 rfl rfl (by omega) (by show ((k : Nat) : Int) < 8; omega) rfl ?_   -- 10.10
              rw [show letters.getD ((k : Nat) : Int).toNat 0 = letters.getD k 0 by simp]
              refine V_callU (.s _ _ _) Tryd.call60 (.cons rfl (.cons rfl .nil)) (fun w1 hw1 => (idx_spec w1 (v.drop j) (letters.getD k 0)).mono fun e w2 ⟨he, hD⟩ => ⟨_, [], he, hD, rfl, rfl⟩) rfl (fun _ _ h => h.sublist (by simp)) ?_
              rintro _ _ ⟨rfl, rfl⟩
              have hcut := cut1 (show k < 8 by omega)
              generalize hcc : letters.getD k 0 = cc at *
              refine V_asg (.s _ _ _) rfl rfl ?_   -- 10.12
              refine V_asg (.s _ _ _) rfl rfl ?_   -- 10.13
              refine V_sub [(0, _), (1, _), (4, _), (5, _), (6, _), (7, _), (8, _), (9, _), (10, _), (11, _), (12, _), (32, _), (33, _)] ⟨rfl, rfl, rfl, rfl, rfl, rfl, rfl, rfl, rfl, rfl, rfl, rfl, rfl, trivial⟩ ?_
              refine V_nil (.inr ⟨_, rfl⟩) ?_
              refine E_then ?_
              refine J_seq ?_
              refine J_draw (Gs := _) (cl := [.p, .p, .p, .p, .p, .p, .p, .p, .p, .p, .p, .p, .p, .r, .p, .p, .p, .p, .p, .r, .p, .p, .p, .p, .r, .p, .p, .r, .p, .p]) (by kernel_rfl) (fun _ _ h => h) ?_
              refine V_mov (.s _ _ _) rfl rfl ?_   -- 11.0
              refine V_geq (.s _ _ _) rfl rfl rfl ?_   -- 11.1
              refine V_mov (.s _ _ _) rfl rfl ?_   -- 11.2
              refine V_split 49 rfl (fun h5 => ?_) (fun h5 => ?_)   -- guard 11.2
              · skip
                refine V_go (2, true) rfl ?_
                refine V_mov (.s _ _ _) rfl rfl ?_   -- 11.3
                refine V_go (2, true) rfl ?_
                refine V_geq (.s _ _ _) rfl rfl rfl ?_   -- 11.4
                refine V_pickT (.s _ _ _) rfl rfl rfl ?_   -- 11.5
                refine V_mov (.s _ _ _) rfl rfl ?_   -- 11.6
                refine V_split 53 rfl (fun h6 => ?_) (fun h6 => ?_)   -- guard 11.6
                · obtain ⟨a, ha, ea, hba⟩ := idx_some (c := cc) (u := u.drop i) (by omega)
                  obtain ⟨b, hb, eb, hbb⟩ := idx_some (c := cc) (u := v.drop j) (by omega)
                  rw [List.length_drop] at ha hb
                  rw [ea, eb]
                  have hbg := begins_at hba hbb
                  rw [List.drop_drop, List.drop_drop] at hbg
                  have q5 := lc_small (u := u) hu8 (i + a + 1) (v.drop (j + b + 1))
                  refine V_go (6, true) rfl ?_
                  refine V_mov (.s _ _ _) rfl rfl ?_   -- 11.7
                  refine V_go (6, true) rfl ?_
                  refine V_mov (.s _ _ _) rfl rfl ?_   -- 11.8
                  refine V_go (6, true) rfl ?_
                  refine V_mov (.s _ _ _) rfl rfl ?_   -- 11.9
                  refine V_go (6, true) rfl ?_
                  refine V_add (.s _ _ _) rfl rfl (wrap_ok (by omega)) rfl ?_   -- 11.10
                  refine V_go (6, true) rfl ?_
                  refine V_add (.s _ _ _) rfl rfl (wrap_ok (by omega)) rfl ?_   -- 11.11
                  rw [show (((i : Nat) : Int) + (a : Int) + 1) = ((i + a + 1 : Nat) : Int) by omega]
                  refine V_go (6, true) rfl ?_
                  refine V_ix (.s _ _ _) Tryd.underlying45 Tryd.sizeOf34 rfl rfl (by omega) (by omega) rfl ?_   -- 11.12
                  refine V_go (6, true) rfl ?_
                  have hmem2 := rowsE_mem (t := 3) (Rw := lcRow u v) (bs := bs) (q := 0) (i := i + a + 1) (by omega)
                  rw [Nat.zero_add] at hmem2
                  refine V_ld (.s _ _ _) Tryd.isAgg34 rfl (by repeat (first | exact List.Mem.head _ | assumption | apply List.Mem.tail)) (rowsV_get (i := i + a + 1) (by omega)) rfl ?_   -- 11.13
                  refine V_go (6, true) rfl ?_
                  refine V_mov (.s _ _ _) rfl rfl ?_   -- 11.14
                  refine V_go (6, true) rfl ?_
                  refine V_mov (.s _ _ _) rfl rfl ?_   -- 11.15
                  refine V_go (6, true) rfl ?_
                  refine V_add (.s _ _ _) rfl rfl (wrap_ok (by omega)) rfl ?_   -- 11.16
                  refine V_go (6, true) rfl ?_
                  refine V_add (.s _ _ _) rfl rfl (wrap_ok (by omega)) rfl ?_   -- 11.17
                  rw [show (((j : Nat) : Int) + (b : Int) + 1) = ((j + b + 1 : Nat) : Int) by omega]
                  refine V_go (6, true) rfl ?_
                  refine V_ix (.s _ _ _) Tryd.underlying34 Tryd.sizeOf3 rfl rfl (by omega) (by omega) rfl ?_   -- 11.18
                  refine V_go (6, true) rfl ?_
                  refine V_ld (.s _ _ _) Tryd.isAgg3 rfl (by repeat (first | exact List.Mem.head _ | assumption | apply List.Mem.tail)) (I_getN (xs := lcRow u v (i + a + 1)) (i := (j + b + 1)) (by simp; omega)) rfl ?_   -- 11.19
                  rw [lcRow_get (by omega)]
                  refine V_go (6, true) rfl ?_
                  refine V_add (.s _ _ _) rfl rfl (wrap_ok (by omega)) rfl ?_   -- 11.20
                  refine V_go (6, true) rfl ?_
                  refine V_mov (.s _ _ _) rfl rfl ?_   -- 11.21
                  refine V_go (6, true) rfl ?_
                  refine V_mov (.s _ _ _) rfl rfl ?_   -- 11.22
                  refine V_go (6, true) rfl ?_
                  refine V_ix (.s _ _ _) Tryd.underlying45 Tryd.sizeOf34 rfl rfl (by omega) (by omega) rfl ?_   -- 11.23
                  refine V_go (6, true) rfl ?_
                  refine V_ld (.s _ _ _) Tryd.isAgg34 rfl (by repeat (first | exact List.Mem.head _ | assumption | apply List.Mem.tail)) (rowsV_get (i := i) (by omega)) rfl ?_   -- 11.24
                  refine V_go (6, true) rfl ?_
                  refine V_mov (.s _ _ _) rfl rfl ?_   -- 11.25
                  refine V_go (6, true) rfl ?_
                  refine V_ix (.s _ _ _) Tryd.underlying34 Tryd.sizeOf3 rfl rfl (by omega) (by omega) rfl ?_   -- 11.26
                  refine V_go (6, true) rfl ?_
                  refine V_ld (.s _ _ _) Tryd.isAgg3 rfl (by repeat (first | exact List.Mem.head _ | assumption | apply List.Mem.tail)) (I_getN (xs := lcRow u v i) (i := j) (by simp; omega)) rfl ?_   -- 11.27
                  rw [lcRow_get (by omega)]
                  refine V_go (6, true) rfl ?_
                  refine V_eql (.s _ _ _) rfl rfl rfl ?_   -- 11.28
                  refine V_pickT (.s _ _ _) rfl rfl rfl ?_   -- 11.29
                  refine V_sub [(0, _), (1, _), (4, _), (5, _), (6, _), (7, _), (8, _), (9, _), (10, _), (11, _), (12, _), (32, _), (33, _), (76, _)] ⟨rfl, rfl, rfl, rfl, rfl, rfl, rfl, rfl, rfl, rfl, rfl, rfl, rfl, rfl, trivial⟩ ?_
                  refine V_nil (.inr ⟨_, rfl⟩) ?_
                  refine E_then ?_
                  refine J_cond rfl (fun h7 => ?_) (fun h7 => ?_)   -- C3
                  · skip
                    refine J_seq ?_
                    refine J_region ?_
                    refine V_mov (.n _) rfl rfl ?_   -- 12.0
                    refine V_mov (.n _) rfl rfl ?_   -- 12.1
                    refine V_mov (.n _) rfl rfl ?_   -- 12.2
                    refine V_add (.n _) rfl rfl (wrap_ok (by omega)) rfl ?_   -- 12.3
                    refine V_sslc (p := letters) (.n _) Tryd.underlying9 rfl rfl rfl (by omega) (by omega) (by show ((k : Nat) : Int) + 1 ≤ 8; omega) rfl ?_   -- 12.4
                    rw [hcut]
                    refine V_cat (.n _) rfl rfl (by simp; omega) rfl ?_   -- 12.5
                    refine V_asg (.n _) rfl rfl ?_   -- 12.6
                    refine V_sub [(0, _), (1, _), (4, _), (5, _), (6, _), (7, _), (8, _), (9, _), (10, _), (11, _), (12, _), (32, _), (33, _), (76, _)] ⟨rfl, rfl, rfl, rfl, rfl, rfl, rfl, rfl, rfl, rfl, rfl, rfl, rfl, rfl, trivial⟩ ?_
                    refine V_nil (.inl rfl) ?_
                    refine E_then ?_
                    refine J_seq ?_
                    refine J_region ?_
                    refine V_mov (.n _) rfl rfl ?_   -- 13.0
                    refine V_mov (.n _) rfl rfl ?_   -- 13.1
                    refine V_add (.n _) rfl rfl (wrap_ok (by omega)) rfl ?_   -- 13.2
                    refine V_add (.n _) rfl rfl (wrap_ok (by omega)) rfl ?_   -- 13.3
                    refine V_mov (.n _) rfl rfl ?_   -- 13.4
                    refine V_mov (.n _) rfl rfl ?_   -- 13.5
                    refine V_add (.n _) rfl rfl (wrap_ok (by omega)) rfl ?_   -- 13.6
                    refine V_add (.n _) rfl rfl (wrap_ok (by omega)) rfl ?_   -- 13.7
                    refine V_asg (.n _) rfl rfl ?_   -- 13.8
                    refine V_asg (.n _) rfl rfl ?_   -- 13.9
                    refine V_sub [(0, _), (1, _), (4, _), (5, _), (6, _), (7, _), (8, _), (9, _), (10, _), (11, _), (12, _), (32, _), (33, _), (76, _)] ⟨rfl, rfl, rfl, rfl, rfl, rfl, rfl, rfl, rfl, rfl, rfl, rfl, rfl, rfl, trivial⟩ ?_
                    refine V_nil (.inl rfl) ?_
                    refine E_then ?_
                    refine J_exit ?_
                    refine E_blk_exit rfl ?_
                    refine E_then_exit ?_
                    refine E_lp_exit ?_
                    refine E_blk_hit ?_
                    refine E_blk ?_
                    -- again L0 0
                    subst hcc
                    refine E_again (X := Nat × Nat × List UInt8) (KI := fun x => [(0, (.string ⟨u.toArray⟩)), (1, (.string ⟨v.toArray⟩)), (4, (.string ⟨#[]⟩)), (5, (.int .i64 (0))), (6, (.slice (some ⟨bT, 0, none⟩) (u.length + 1) (u.length + 1))), (7, .string ⟨x.2.2.toArray⟩), (8, .int .i64 (x.1 : Nat)), (9, .int .i64 (x.2.1 : Nat))]) (GI := fun x => .c bT 34 (bs.map (rowV (v.length + 1))) :: rowsE 3 (lcRow u v) 0 bs) (I := fun x => x.1 ≤ u.length ∧ x.2.1 ≤ v.length ∧ x.2.2.length ≤ x.1 ∧ x.2.2 ++ com (u.drop x.1) (v.drop x.2.1) = com u v) (μ := fun x => u.length - x.1) (x := (i, j, acc)) ((i + a + 1, j + b + 1, acc ++ [letters.getD k 0])) ?_ ?_ ?_ (fun w h => h)
                    · show u.length - (i + a + 1) < u.length - i; omega
                    · dsimp only
                      refine ⟨by omega, by omega, by rw [List.length_append, List.length_singleton]; omega, ?_⟩
                      have hb1 : begins (u.drop i) (v.drop j) (letters.getD k 0) = true := by
                        rw [hbg]; refine decide_eq_true ?_; rw [← Nat.add_assoc, ← Nat.add_assoc]; omega
                      obtain ⟨c1, u1, v1, hf1, hf2, hf3, _, hf5⟩ := hcl
                      have hf6 := find_here (l := letters) (j := k) (by show k < 8; omega) hno hb1
                      rw [hf1] at hf6
                      obtain rfl := Option.some.inj hf6
                      rw [hba] at hf2
                      rw [hbb] at hf3
                      obtain rfl := Option.some.inj hf2
                      obtain rfl := Option.some.inj hf3
                      rw [List.drop_drop, List.drop_drop] at hf5
                      rw [List.append_assoc, List.singleton_append, ← hpath, hf5]
                      rw [show i + a + 1 = i + (a + 1) by omega, show j + b + 1 = j + (b + 1) by omega]
                    · refine ⟨?_, ?_, ?_, ?_, ?_, ?_, ?_, ?_, trivial⟩ <;> first | rfl | exact int_eq (by omega) | exact int_eq (by dsimp only; omega)
                  · skip
                    refine J_skip ?_
                    refine E_blk ?_
                    refine E_then ?_
                    refine J_region ?_
                    refine V_add (.n _) rfl rfl (wrap_ok (by omega)) rfl ?_   -- 14.0
                    refine V_mov (.n _) rfl rfl ?_   -- 14.1
                    refine V_sub [(0, _), (1, _), (4, _), (5, _), (6, _), (7, _), (8, _), (9, _), (10, _), (11, _), (12, _), (32, _), (33, _), (76, _)] ⟨rfl, rfl, rfl, rfl, rfl, rfl, rfl, rfl, rfl, rfl, rfl, rfl, rfl, rfl, trivial⟩ ?_
                    refine V_nil (.inl rfl) ?_
                    -- again L1 0
                    subst hcc
                    refine E_again (k + 1) ?_ ?_ ?_ (fun w h => h)
                    · omega
                    · refine ⟨by omega, fun x hx => ?_⟩
                      by_cases ex : x = k
                      · subst ex
                        first
                          | exact begins_no (.inl (idx_none (by omega)))
                          | exact begins_no (.inr (idx_none (by omega)))
                          | (rw [hbg]; refine decide_eq_false ?_; rw [← Nat.add_assoc, ← Nat.add_assoc]; omega)
                      · exact hno x (by omega)
                    · refine ⟨?_, ?_, ?_, ?_, ?_, ?_, ?_, ?_, ?_, trivial⟩ <;> first | rfl | exact int_eq (by omega) | exact int_eq (by dsimp only; omega)
                · skip
                  refine V_pass (.s _ _ _) (6, true) rfl rfl ?_   -- 11.7
                  refine V_pass (.s _ _ _) (6, true) rfl rfl ?_   -- 11.8
                  refine V_pass (.s _ _ _) (6, true) rfl rfl ?_   -- 11.9
                  refine V_pass (.s _ _ _) (6, true) rfl rfl ?_   -- 11.10
                  refine V_pass (.s _ _ _) (6, true) rfl rfl ?_   -- 11.11
                  refine V_pass (.s _ _ _) (6, true) rfl rfl ?_   -- 11.12
                  refine V_pass (.s _ _ _) (6, true) rfl rfl ?_   -- 11.13
                  refine V_pass (.s _ _ _) (6, true) rfl rfl ?_   -- 11.14
                  refine V_pass (.s _ _ _) (6, true) rfl rfl ?_   -- 11.15
                  refine V_pass (.s _ _ _) (6, true) rfl rfl ?_   -- 11.16
                  refine V_pass (.s _ _ _) (6, true) rfl rfl ?_   -- 11.17
                  refine V_pass (.s _ _ _) (6, true) rfl rfl ?_   -- 11.18
                  refine V_pass (.s _ _ _) (6, true) rfl rfl ?_   -- 11.19
                  refine V_pass (.s _ _ _) (6, true) rfl rfl ?_   -- 11.20
                  refine V_pass (.s _ _ _) (6, true) rfl rfl ?_   -- 11.21
                  refine V_pass (.s _ _ _) (6, true) rfl rfl ?_   -- 11.22
                  refine V_pass (.s _ _ _) (6, true) rfl rfl ?_   -- 11.23
                  refine V_pass (.s _ _ _) (6, true) rfl rfl ?_   -- 11.24
                  refine V_pass (.s _ _ _) (6, true) rfl rfl ?_   -- 11.25
                  refine V_pass (.s _ _ _) (6, true) rfl rfl ?_   -- 11.26
                  refine V_pass (.s _ _ _) (6, true) rfl rfl ?_   -- 11.27
                  refine V_pass (.s _ _ _) (6, true) rfl rfl ?_   -- 11.28
                  refine V_pickF (.s _ _ _) rfl rfl rfl ?_   -- 11.29
                  refine V_sub [(0, _), (1, _), (4, _), (5, _), (6, _), (7, _), (8, _), (9, _), (10, _), (11, _), (12, _), (32, _), (33, _), (76, _)] ⟨rfl, rfl, rfl, rfl, rfl, rfl, rfl, rfl, rfl, rfl, rfl, rfl, rfl, rfl, trivial⟩ ?_
                  refine V_nil (.inr ⟨_, rfl⟩) ?_
                  refine E_then ?_
                  refine J_condF rfl ?_
                  refine J_skip ?_
                  refine E_blk ?_
                  refine E_then ?_
                  refine J_region ?_
                  refine V_add (.n _) rfl rfl (wrap_ok (by omega)) rfl ?_   -- 14.0
                  refine V_mov (.n _) rfl rfl ?_   -- 14.1
                  refine V_sub [(0, _), (1, _), (4, _), (5, _), (6, _), (7, _), (8, _), (9, _), (10, _), (11, _), (12, _), (32, _), (33, _), (76, _)] ⟨rfl, rfl, rfl, rfl, rfl, rfl, rfl, rfl, rfl, rfl, rfl, rfl, rfl, rfl, trivial⟩ ?_
                  refine V_nil (.inl rfl) ?_
                  -- again L1 1
                  subst hcc
                  refine E_again (k + 1) ?_ ?_ ?_ (fun w h => h)
                  · omega
                  · refine ⟨by omega, fun x hx => ?_⟩
                    by_cases ex : x = k
                    · subst ex
                      first
                        | exact begins_no (.inl (idx_none (by omega)))
                        | exact begins_no (.inr (idx_none (by omega)))
                        | (rw [hbg]; refine decide_eq_false ?_; rw [← Nat.add_assoc, ← Nat.add_assoc]; omega)
                    · exact hno x (by omega)
                  · refine ⟨?_, ?_, ?_, ?_, ?_, ?_, ?_, ?_, ?_, trivial⟩ <;> first | rfl | exact int_eq (by omega) | exact int_eq (by dsimp only; omega)
              · skip
                refine V_pass (.s _ _ _) (2, true) rfl rfl ?_   -- 11.3
                refine V_pass (.s _ _ _) (2, true) rfl rfl ?_   -- 11.4
                refine V_pickF (.s _ _ _) rfl rfl rfl ?_   -- 11.5
                refine V_mov (.s _ _ _) rfl rfl ?_   -- 11.6
                refine V_pass (.s _ _ _) (6, true) rfl rfl ?_   -- 11.7
                refine V_pass (.s _ _ _) (6, true) rfl rfl ?_   -- 11.8
                refine V_pass (.s _ _ _) (6, true) rfl rfl ?_   -- 11.9
                refine V_pass (.s _ _ _) (6, true) rfl rfl ?_   -- 11.10
                refine V_pass (.s _ _ _) (6, true) rfl rfl ?_   -- 11.11
                refine V_pass (.s _ _ _) (6, true) rfl rfl ?_   -- 11.12
                refine V_pass (.s _ _ _) (6, true) rfl rfl ?_   -- 11.13
                refine V_pass (.s _ _ _) (6, true) rfl rfl ?_   -- 11.14
                refine V_pass (.s _ _ _) (6, true) rfl rfl ?_   -- 11.15
                refine V_pass (.s _ _ _) (6, true) rfl rfl ?_   -- 11.16
                refine V_pass (.s _ _ _) (6, true) rfl rfl ?_   -- 11.17
                refine V_pass (.s _ _ _) (6, true) rfl rfl ?_   -- 11.18
                refine V_pass (.s _ _ _) (6, true) rfl rfl ?_   -- 11.19
                refine V_pass (.s _ _ _) (6, true) rfl rfl ?_   -- 11.20
                refine V_pass (.s _ _ _) (6, true) rfl rfl ?_   -- 11.21
                refine V_pass (.s _ _ _) (6, true) rfl rfl ?_   -- 11.22
                refine V_pass (.s _ _ _) (6, true) rfl rfl ?_   -- 11.23
                refine V_pass (.s _ _ _) (6, true) rfl rfl ?_   -- 11.24
                refine V_pass (.s _ _ _) (6, true) rfl rfl ?_   -- 11.25
                refine V_pass (.s _ _ _) (6, true) rfl rfl ?_   -- 11.26
                refine V_pass (.s _ _ _) (6, true) rfl rfl ?_   -- 11.27
                refine V_pass (.s _ _ _) (6, true) rfl rfl ?_   -- 11.28
                refine V_pickF (.s _ _ _) rfl rfl rfl ?_   -- 11.29
                refine V_sub [(0, _), (1, _), (4, _), (5, _), (6, _), (7, _), (8, _), (9, _), (10, _), (11, _), (12, _), (32, _), (33, _), (76, _)] ⟨rfl, rfl, rfl, rfl, rfl, rfl, rfl, rfl, rfl, rfl, rfl, rfl, rfl, rfl, trivial⟩ ?_
                refine V_nil (.inr ⟨_, rfl⟩) ?_
                refine E_then ?_
                refine J_condF rfl ?_
                refine J_skip ?_
                refine E_blk ?_
                refine E_then ?_
                refine J_region ?_
                refine V_add (.n _) rfl rfl (wrap_ok (by omega)) rfl ?_   -- 14.0
                refine V_mov (.n _) rfl rfl ?_   -- 14.1
                refine V_sub [(0, _), (1, _), (4, _), (5, _), (6, _), (7, _), (8, _), (9, _), (10, _), (11, _), (12, _), (32, _), (33, _), (76, _)] ⟨rfl, rfl, rfl, rfl, rfl, rfl, rfl, rfl, rfl, rfl, rfl, rfl, rfl, rfl, trivial⟩ ?_
                refine V_nil (.inl rfl) ?_
                -- again L1 2
                subst hcc
                refine E_again (k + 1) ?_ ?_ ?_ (fun w h => h)
                · omega
                · refine ⟨by omega, fun x hx => ?_⟩
                  by_cases ex : x = k
                  · subst ex
                    first
                      | exact begins_no (.inl (idx_none (by omega)))
                      | exact begins_no (.inr (idx_none (by omega)))
                      | (rw [hbg]; refine decide_eq_false ?_; rw [← Nat.add_assoc, ← Nat.add_assoc]; omega)
                  · exact hno x (by omega)
                · refine ⟨?_, ?_, ?_, ?_, ?_, ?_, ?_, ?_, ?_, trivial⟩ <;> first | rfl | exact int_eq (by omega) | exact int_eq (by dsimp only; omega)
            · obtain ⟨c1, _, _, hf1, _⟩ := hcl
              exact absurd hf1 (find_no (fun x hx => hno x (by omega)))
        · skip
          refine J_exit ?_
          refine E_then_exit ?_
          refine E_lp_exit ?_
          refine E_blk_hit ?_
          refine E_then ?_
          refine J_seq ?_
          refine J_region ?_
          refine V_mov (.n _) rfl rfl ?_   -- 15.0
          refine V_asg (.n _) rfl rfl ?_   -- 15.1
          refine V_asg (.n _) rfl rfl ?_   -- 15.2
          refine V_sub [(0, _), (1, _), (4, _), (5, _), (6, _), (7, _), (8, _), (9, _), (31, _)] ⟨rfl, rfl, rfl, rfl, rfl, rfl, rfl, rfl, rfl, trivial⟩ ?_
          refine V_nil (.inl rfl) ?_
          refine E_then ?_
          refine J_ret ?_
          -- return R2
          refine E_ret2 Tryd.results20 rfl rfl (fun w hw => ?_)
          have hcr : comR u v = (com u v, 0) := if_pos ⟨hu, hv⟩
          rw [hcr]
          obtain rfl : acc = com u v := by
            rw [← hpath]
            have h0 : (com (u.drop i) (v.drop j)).length = 0 := by
              rw [(com_len _ (u.drop i) (v.drop j) (Nat.le_refl _) (fun x hx => isWord_letters hu x (List.mem_of_mem_drop hx))).1]; omega
            rw [List.length_eq_zero_iff.1 h0, List.append_nil]
          exact ⟨rfl, hw.sub (fun x hx => by simp at hx) (by simp [keys])⟩

end Go.Proofs.YtgeahmmepfmcoaaDoor
