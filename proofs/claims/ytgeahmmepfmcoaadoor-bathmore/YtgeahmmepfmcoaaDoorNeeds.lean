/- parts of the proofs of the bath statements -/
import Derived.Test.YtgeahmmepfmcoaaDoorValid
import Derived.Test.YtgeahmmepfmcoaaDoorOMath
import Derived.Test.YtgeahmmepfmcoaaDoorCore11
namespace Go.Proofs.YtgeahmmepfmcoaaDoor
open Go Go.RowKit L
set_option linter.unusedVariables false
set_option linter.unusedSimpArgs false

def needT (n : Nat) (B : Pairs) : List Int := mkT n fun j => ((needN B j : Nat) : Int)
@[simp] theorem needT_length (n : Nat) (B : Pairs) : (needT n B).length = n := mkT_length _ _
theorem needT_get {n j : Nat} {B : Pairs} (h : j < n) : (needT n B).getD j 0 = ((needN B j : Nat) : Int) := mkT_get h
theorem needN_snoc (B : Pairs) (b : Nat × Nat) (j : Nat) : needN (B ++ [b]) j = if b.2 = j then needN B j ||| 2 ^ b.1 else needN B j := by
  simp only [needN, List.foldl_append, List.foldl_cons, List.foldl_nil]
theorem needT_next {n i a b : Nat} {B : Pairs} (h : i < B.length) (he : B.getD i (0, 0) = (a, b)) : (needT n (B.take i)).set b ((needN (B.take i) b ||| 2 ^ a : Nat) : Int) = needT n (B.take (i + 1)) := by
  rw [needT, mkT_set, needT]
  refine mkT_congr fun k hk => ?_
  have : B.take (i + 1) = B.take i ++ [(a, b)] := by
    rw [List.take_succ_eq_append_getElem h]
    have : B[i] = (a, b) := by rw [← he]; simp [h]
    rw [this]
  rw [this, needN_snoc]
  by_cases e : k = b
  · subst e; rw [if_pos rfl, if_pos rfl]
  · rw [if_neg e, if_neg (fun hh => e hh.symm)]
theorem natB_length (be : List (Int × Int)) : (natB be).length = be.length := by simp [natB]
theorem lt63 {s n : Nat} (h : s < 2 ^ n) (hn : n ≤ 10) : s < 2 ^ 63 := Nat.lt_of_lt_of_le h (Nat.pow_le_pow_right (by decide) (by omega))
theorem lt1024 {s n : Nat} (h : s < 2 ^ n) (hn : n ≤ 10) : s < 1024 := Nat.lt_of_lt_of_le h (Nat.pow_le_pow_right (n := 2) (by decide) (show n ≤ 10 by omega))
theorem pow1024 {n : Nat} (hn : n ≤ 10) : 2 ^ n ≤ 1024 := Nat.pow_le_pow_right (n := 2) (by decide) (show n ≤ 10 by omega)
theorem bit0 (b : Bool) : decide ((if b = true then (1 : Int) else 0) = 0) = !b := by cases b <;> rfl
theorem VP.need_lt {st : List Int} {ch : Rows2} {be : List (Int × Int)} (h : VP st ch be) (k j : Nat) : needN ((natB be).take k) j < 2 ^ st.length := needN_lt (fun b hb => h.lt b (List.mem_of_mem_take hb)) j
theorem VP.needF {st : List Int} {ch : Rows2} {be : List (Int × Int)} (h : VP st ch be) (j : Nat) : needN (natB be) j < 2 ^ st.length := needN_lt h.lt j
theorem or_left {y j : Nat} {t : Bool} (h : y ≠ j) : (!y == j || t) = true := by
  rw [show (y == j) = false from beq_eq_false_iff_ne.2 h]; rfl
theorem or_right {b t : Bool} (h : t = true) : (b || t) = true := by rw [h]; simp
theorem addAll_next {B : Pairs} {s j : Nat} : addAll B (List.range (j + 1)) s = if fol B (addAll B (List.range j) s) j then addAll B (List.range j) s ||| 2 ^ j else addAll B (List.range j) s := by
  unfold addAll
  rw [List.range_succ, List.foldl_append]
  rfl
theorem addAll_lt {B : Pairs} {n : Nat} : ∀ (j s : Nat), j ≤ n → s < 2 ^ n → addAll B (List.range j) s < 2 ^ n
  | 0, s, _, h => h
  | j + 1, s, hj, h => by
    have ih := addAll_lt (B := B) j s (by omega) h
    rw [addAll_next]
    split
    · exact or_lt ih (by omega)
    · exact ih
theorem posSet_lt {B : Pairs} {n : Nat} : ∀ (k : Nat), posSet B n k < 2 ^ n
  | 0 => Nat.pow_pos (by decide)
  | k + 1 => addAll_lt n _ (Nat.le_refl _) (posSet_lt k)


theorem needT0 {b t n : Nat} {B : Pairs} : Ent.c b t (I (needT n (B.take 0))) = Ent.c b t (List.replicate n (Value.int .i64 0)) := by
  rw [I_rep, mkT_rep]; rfl

theorem needs_spec (w : World) (A1 A2 A3 : Option Addr) (c1 c2 c3 : Nat) (vs : List Value) (st : List Int) (ch : Rows2) (be : List (Int × Int)) (hl1 : st.length ≤ 140737488351232) (hl2 : ch.length ≤ 140737488351232) (hl3 : be.length ≤ 140737488351232) (hp : PR w A1 A2 A3 vs st ch be) (hv : VP st ch be) : Calls Tryd.prog 75 #[.agg #[.slice A1 st.length c1, .slice A2 ch.length c2, .slice A3 be.length c3]] w fun e w' => ∃ v D, e = .returned v ∧ St w D w' ∧ ∃ b, v = .slice (some ⟨b, 0, none⟩) st.length st.length ∧ D = [.c b 3 (I (needT st.length (natB be)))] := by
  have hn10 := hv.n10
  refine calls (args := [.agg #[.slice A1 st.length c1, .slice A2 ch.length c2, .slice A3 be.length c3]]) Tryd.func75 rfl Tryd.ntmps75 (Nat.le_of_ble_eq_true rfl) (St.refl w) ?_
  refine J_seq ?_
  refine J_region ?_
  refine V_box (.n _) rfl rfl rfl (fun _ => trivial) (fun b1 => ?_)   -- 0.0
  refine V_asg (.n _) rfl rfl ?_   -- 0.1
  refine V_sub [(0, _), (1, _), (2, _)] ⟨rfl, rfl, rfl, trivial⟩ ?_
  refine V_nil (.inl rfl) ?_
  refine E_then ?_
  refine J_seq ?_
  refine J_region ?_
  first | refine V_fa0 (.n _) fo51_0 rfl rfl ?_ | refine V_faz (.n _) fo51_0 rfl rfl ?_ | refine V_fa (.n _) fo51_0 rfl rfl ?_   -- 1.0
  refine V_ld (.n _) Tryd.isAgg34 rfl (by repeat (first | exact List.Mem.head _ | assumption | apply List.Mem.tail)) (by rfl) rfl ?_   -- 1.1
  refine V_len (.n _) Tryd.underlying34 rfl rfl ?_   -- 1.2
  refine V_make1 (.n _) Tryd.underlying34 Tryd.typeInfo3 rfl rfl rfl rfl rfl rfl (by omega) rfl (fun _ => trivial) (fun b9 => ?_)   -- 1.3
  refine V_asg (.n _) rfl rfl ?_   -- 1.4
  refine V_sub [(0, _), (1, _), (2, _), (3, _)] ⟨rfl, rfl, rfl, rfl, trivial⟩ ?_
  refine V_nil (.inl rfl) ?_
  refine E_then ?_
  refine J_seq ?_
  refine J_seq ?_
  refine J_region ?_
  first | refine V_fa0 (.n _) fo51_2 rfl rfl ?_ | refine V_faz (.n _) fo51_2 rfl rfl ?_ | refine V_fa (.n _) fo51_2 rfl rfl ?_   -- 2.0
  refine V_ld (.n _) Tryd.isAgg46 rfl (by repeat (first | exact List.Mem.head _ | assumption | apply List.Mem.tail)) (by rfl) rfl ?_   -- 2.1
  refine V_len (.n _) Tryd.underlying46 rfl rfl ?_   -- 2.2
  refine V_mov (.n _) rfl rfl ?_   -- 2.3
  refine V_sub [(0, _), (1, _), (2, _), (3, _), (11, _), (12, _), (13, _)] ⟨rfl, rfl, rfl, rfl, rfl, rfl, rfl, trivial⟩ ?_
  refine V_nil (.inl rfl) ?_
  refine E_then ?_
  refine J_block ?_
  -- loop L0
  refine J_loop (X := Nat) (fun k => [(0, (.agg #[.slice A1 st.length c1, .slice A2 ch.length c2, .slice A3 be.length c3])), (1, (.pointer (some ⟨b1, 0, none⟩))), (2, (.slice none 0 0)), (3, (.slice (some ⟨b9, 0, none⟩) st.length st.length)), (11, (.slice A3 be.length c3)), (12, .int .i64 (be.length : Nat)), (13, .int .i64 (k : Nat))]) (fun k => [.c b9 3 (I (needT st.length ((natB be).take k))), .c b1 51 [.slice A1 st.length c1, .slice A2 ch.length c2, .slice A3 be.length c3]]) (fun k => k ≤ be.length) (fun k => be.length - k) (0) (by refine ⟨?_, ?_, ?_, ?_, ?_, ?_, ?_, trivial⟩ <;> first | rfl | exact int_eq (by omega)) (fun w h => by rw [needT0]; exact h) ?_ ?_
  · omega
  · intro k hk
    refine J_seq ?_
    refine J_region ?_
    refine V_lss (.n _) rfl rfl rfl ?_   -- 3.0
    refine V_sub [(0, _), (1, _), (2, _), (3, _), (11, _), (12, _), (13, _), (14, _)] ⟨rfl, rfl, rfl, rfl, rfl, rfl, rfl, rfl, trivial⟩ ?_
    refine V_nil (.inl rfl) ?_
    refine E_then ?_
    refine J_seq ?_
    refine J_cond rfl (fun h1 => ?_) (fun h1 => ?_)   -- C0
    · skip
      refine J_skip ?_
      refine E_then ?_
      refine J_seq ?_
      refine J_block ?_
      refine J_seq ?_
      refine J_region ?_
      first | refine V_ix (.n _) Tryd.underlying46 Tryd.sizeOf49 rfl rfl (by omega) (by omega) rfl ?_ | refine V_ixz (.n _) Tryd.underlying46 Tryd.sizeOf49 rfl rfl (hp.h3.pl (by simp; omega)) (by omega) (by omega) rfl ?_   -- 4.0
      obtain ⟨x, y, hxy, hx, hy, hn⟩ := hv.pair (i := k) (by omega)
      have hnl := lt63 (hv.need_lt k y) hn10
      have hbp := Bp_two (be := be) (i := k) (by omega)
      rw [hxy] at hbp
      refine V_ldzN (vs := [.int .i64 (x : Nat), .int .i64 (y : Nat)]) (.n _) Tryd.isAgg49 Tryd.sizeOf49 rfl hp.h3 hbp rfl rfl ?_   -- 4.1
      refine V_alloc (.n _) Tryd.zeroValue49 rfl rfl (fun _ => trivial) (fun b5 => ?_)   -- 4.2
      refine V_stN (.n _) Tryd.sizeOf49 rfl rfl rfl (by simp [Value.oneCell']) (by repeat (first | exact SetAt.z | apply SetAt.s)) rfl rfl ?_   -- 4.3
      refine V_sub [(0, _), (1, _), (2, _), (3, _), (5, _), (11, _), (12, _), (13, _), (14, _)] ⟨rfl, rfl, rfl, rfl, rfl, rfl, rfl, rfl, rfl, trivial⟩ ?_
      refine V_nil (.inl rfl) ?_
      refine E_then ?_
      refine J_draw (Gs := _) (cl := [.p, .p, .r, .p, .r, .p, .r, .p, .p, .p, .w]) (by kernel_rfl) (fun _ _ h => h) ?_
      refine V_mov (.s _ _ _) rfl rfl ?_   -- 5.0
      refine V_ixA (.s _ _ _) Tryd.underlying49 Tryd.sizeOf3 rfl rfl (by omega) (by omega) rfl ?_   -- 5.1
      refine V_ld (.s _ _ _) Tryd.isAgg3 rfl (by repeat (first | exact List.Mem.head _ | assumption | apply List.Mem.tail)) (by rfl) rfl ?_   -- 5.2
      first | refine V_ix (.s _ _ _) Tryd.underlying34 Tryd.sizeOf3 rfl rfl (by omega) (by omega) rfl ?_ | refine V_ixz (.s _ _ _) Tryd.underlying34 Tryd.sizeOf3 rfl rfl (hp.h3.pl (by simp; omega)) (by omega) (by omega) rfl ?_   -- 5.3
      refine V_ld (.s _ _ _) Tryd.isAgg3 rfl (by repeat (first | exact List.Mem.head _ | assumption | apply List.Mem.tail)) (I_getN (xs := needT st.length ((natB be).take k)) (i := y) (by simp; omega)) rfl ?_   -- 5.4
      rw [needT_get hy]
      refine V_ixA (.s _ _ _) Tryd.underlying49 Tryd.sizeOf3 rfl rfl (by omega) (by omega) rfl ?_   -- 5.5
      refine V_ld (.s _ _ _) Tryd.isAgg3 rfl (by repeat (first | exact List.Mem.head _ | assumption | apply List.Mem.tail)) (by rfl) rfl ?_   -- 5.6
      refine V_shl (.s _ _ _) rfl rfl (by omega) (by simp [IntKind.bits]; omega) (by rw [shl_nat]; exact wrap_nat (lt63 (Nat.pow_lt_pow_right (by decide) hx) hn10)) rfl ?_   -- 5.7
      rw [shl_nat]
      refine V_or (r := ((needN ((natB be).take k) y ||| 2 ^ x : Nat) : Int)) (.s _ _ _) rfl rfl (bits_or hnl (lt63 (Nat.pow_lt_pow_right (by decide) hx) hn10)) rfl ?_   -- 5.8
      first | refine V_ix (.s _ _ _) Tryd.underlying34 Tryd.sizeOf3 rfl rfl (by omega) (by omega) rfl ?_ | refine V_ixz (.s _ _ _) Tryd.underlying34 Tryd.sizeOf3 rfl rfl (hp.h3.pl (by simp; omega)) (by omega) (by omega) rfl ?_   -- 5.9
      refine V_st (cs' := I (needT st.length ((natB be).take (k + 1)))) (.s _ _ _) Tryd.sizeOf3 rfl rfl rfl (by repeat (first | exact SetAt.z | apply SetAt.s)) (by rw [toN, I_set, needT_next (by rw [natB_length]; omega) hn]) (by simp; omega) ?_   -- 5.10
      refine V_sub [(0, _), (1, _), (2, _), (3, _), (5, _), (11, _), (12, _), (13, _), (14, _)] ⟨rfl, rfl, rfl, rfl, rfl, rfl, rfl, rfl, rfl, trivial⟩ ?_
      refine V_nil (.inr ⟨_, rfl⟩) ?_
      refine E_blk ?_
      refine E_then ?_
      refine J_region ?_
      refine V_add (.n _) rfl rfl (wrap_ok (by omega)) rfl ?_   -- 6.0
      refine V_mov (.n _) rfl rfl ?_   -- 6.1
      refine V_sub [(0, _), (1, _), (2, _), (3, _), (5, _), (11, _), (12, _), (13, _), (14, _)] ⟨rfl, rfl, rfl, rfl, rfl, rfl, rfl, rfl, rfl, trivial⟩ ?_
      refine V_nil (.inl rfl) ?_
      -- again L0 0
      refine E_again (k + 1) ?_ ?_ ?_ (fun w h => h.sublist (by simp))
      · omega
      · omega
      · refine ⟨?_, ?_, ?_, ?_, ?_, ?_, ?_, trivial⟩ <;> first | rfl | exact int_eq (by omega) | exact int_eq (by dsimp only; omega)
    · skip
      refine J_exit ?_
      refine E_then_exit ?_
      refine E_lp_exit ?_
      refine E_blk_hit ?_
      refine E_then ?_
      refine J_seq ?_
      refine J_region ?_
      refine V_mov (.n _) rfl rfl ?_   -- 7.0
      refine V_asg (.n _) rfl rfl ?_   -- 7.1
      refine V_sub [(0, _), (1, _), (2, _), (3, _), (11, _), (12, _), (13, _), (14, _)] ⟨rfl, rfl, rfl, rfl, rfl, rfl, rfl, rfl, trivial⟩ ?_
      refine V_nil (.inl rfl) ?_
      refine E_then ?_
      refine J_ret ?_
      -- return R0
      refine E_ret1 Tryd.results75 rfl (fun w hw => ?_)
      obtain rfl : k = be.length := by omega
      rw [← natB_length be, List.take_length] at hw
      exact ⟨_, _, rfl, hw.sublist (by simp), b9, rfl, rfl⟩

theorem follows_spec (w : World) (A : Option Addr) (c n s j : Nat) (B : Pairs) (hn : n ≤ 10) (hs : s < 2 ^ n) (hj : j < n) (hB : needN B j < 2 ^ n) (hr : Rd w A (I (needT n B))) : Calls Tryd.prog 78 #[.slice A n c, .int .i64 s, .int .i64 j] w fun e w' => e = .returned (.bool (fol B s j)) ∧ St w [] w' := by
  have hs63 := lt63 hs hn
  have hB63 := lt63 hB hn
  have hfn := fol_need (be := B) (j := j) (by omega) s
  refine calls (args := [.slice A n c, .int .i64 s, .int .i64 j]) Tryd.func78 rfl Tryd.ntmps78 (Nat.le_of_ble_eq_true rfl) (St.refl w) ?_
  refine J_seq ?_
  refine J_region ?_
  refine V_asg (.n _) rfl rfl ?_   -- 0.0
  refine V_sub [(0, _), (1, _), (2, _), (6, _)] ⟨rfl, rfl, rfl, rfl, trivial⟩ ?_
  refine V_nil (.inl rfl) ?_
  refine E_then ?_
  refine J_seq ?_
  refine J_region ?_
  refine V_mov (.n _) rfl rfl ?_   -- 1.0
  refine V_mov (.n _) rfl rfl ?_   -- 1.1
  refine V_shr (.n _) rfl rfl (by omega) (by simp [IntKind.bits]; omega) rfl ?_   -- 1.2
  rw [shr_nat]
  refine V_and (r := if s.testBit j then 1 else 0) (.n _) rfl rfl (bit_of s j hs63) rfl ?_   -- 1.3
  refine V_eql (.n _) rfl rfl rfl ?_   -- 1.4
  rw [bit0]
  refine V_mov (.n _) rfl rfl ?_   -- 1.5
  refine V_splitB 12 rfl (fun h1 => ?_) (fun h1 => ?_)   -- guard 1.5
  · rw [h1, Bool.true_and] at hfn
    refine V_go (5, true) rfl ?_
    refine V_mov (.n _) rfl rfl ?_   -- 1.6
    refine V_go (5, true) rfl ?_
    refine V_mov (.n _) rfl rfl ?_   -- 1.7
    refine V_go (5, true) rfl ?_
    first | refine V_ix (.n _) Tryd.underlying34 Tryd.sizeOf3 rfl rfl (by omega) (by omega) rfl ?_ | refine V_ixz (.n _) Tryd.underlying34 Tryd.sizeOf3 rfl rfl (hr.pl (by simp)) (by omega) (by omega) rfl ?_   -- 1.8
    refine V_go (5, true) rfl ?_
    refine V_ldz (.n _) Tryd.isAgg3 rfl hr (I_getN (i := j) (by simp; omega)) rfl ?_   -- 1.9
    rw [needT_get hj]
    refine V_go (5, true) rfl ?_
    refine V_mov (.n _) rfl rfl ?_   -- 1.10
    refine V_go (5, true) rfl ?_
    refine V_andNot (r := ((less (needN B j) s : Nat) : Int)) (.n _) rfl rfl (bits_andNot hB63 hs63) rfl ?_   -- 1.11
    refine V_go (5, true) rfl ?_
    refine V_eql (.n _) rfl rfl rfl ?_   -- 1.12
    refine V_pickT (.n _) rfl rfl rfl ?_   -- 1.13
    refine V_asg (.n _) rfl rfl ?_   -- 1.14
    refine V_sub [(0, _), (1, _), (2, _), (6, _)] ⟨rfl, rfl, rfl, rfl, trivial⟩ ?_
    refine V_nil (.inl rfl) ?_
    refine E_then ?_
    refine J_ret ?_
    -- return R0
    refine E_ret1 Tryd.results78 rfl (fun w hw => ?_)
    exact ⟨by rw [hfn, show decide (((less (needN B j) s : Nat) : Int) = 0) = decide (less (needN B j) s = 0) from decide_eq_decide.2 (by omega)], hw⟩
  · rw [h1, Bool.false_and] at hfn
    refine V_pass (.n .p) (5, true) rfl rfl ?_   -- 1.6
    refine V_pass (.n .p) (5, true) rfl rfl ?_   -- 1.7
    refine V_pass (.n .p) (5, true) rfl rfl ?_   -- 1.8
    refine V_pass (.n .p) (5, true) rfl rfl ?_   -- 1.9
    refine V_pass (.n .p) (5, true) rfl rfl ?_   -- 1.10
    refine V_pass (.n .p) (5, true) rfl rfl ?_   -- 1.11
    refine V_pass (.n .p) (5, true) rfl rfl ?_   -- 1.12
    refine V_pickF (.n _) rfl rfl rfl ?_   -- 1.13
    refine V_asg (.n _) rfl rfl ?_   -- 1.14
    refine V_sub [(0, _), (1, _), (2, _), (6, _)] ⟨rfl, rfl, rfl, rfl, trivial⟩ ?_
    refine V_nil (.inl rfl) ?_
    refine E_then ?_
    refine J_ret ?_
    -- return R1
    refine E_ret1 Tryd.results78 rfl (fun w hw => ?_)
    exact ⟨by rw [hfn], hw⟩

theorem possible_spec (w : World) (A1 A2 A3 : Option Addr) (c1 c2 c3 : Nat) (vs : List Value) (st : List Int) (ch : Rows2) (be : List (Int × Int)) (hl1 : st.length ≤ 140737488351232) (hl2 : ch.length ≤ 140737488351232) (hl3 : be.length ≤ 140737488351232) (hp : PR w A1 A2 A3 vs st ch be) (hv : VP st ch be) : Calls Tryd.prog 74 #[.agg #[.slice A1 st.length c1, .slice A2 ch.length c2, .slice A3 be.length c3]] w fun e w' => e = .returned (.bool (possible (natB be) st.length)) ∧ St w [] w' := by
  have hn10 := hv.n10
  have hp1 := pow1024 hn10
  have hp0 := Nat.pow_pos (n := st.length) (show 0 < 2 by decide)
  refine calls (args := [.agg #[.slice A1 st.length c1, .slice A2 ch.length c2, .slice A3 be.length c3]]) Tryd.func74 rfl Tryd.ntmps74 (Nat.le_of_ble_eq_true rfl) (St.refl w) ?_
  refine J_seq ?_
  refine J_region ?_
  refine V_box (.n _) rfl rfl rfl (fun _ => trivial) (fun b1 => ?_)   -- 0.0
  refine V_asg (.n _) rfl rfl ?_   -- 0.1
  refine V_sub [(0, _), (1, _), (2, _)] ⟨rfl, rfl, rfl, trivial⟩ ?_
  refine V_nil (.inl rfl) ?_
  refine E_then ?_
  refine J_seq ?_
  refine J_region ?_
  refine V_ldN (.n _) Tryd.isAgg51 Tryd.sizeOf51 rfl (by repeat (first | exact List.Mem.head _ | assumption | apply List.Mem.tail)) (by rfl) rfl rfl ?_   -- 1.0
  refine V_call (post := fun v D => ∃ b, v = .slice (some ⟨b, 0, none⟩) st.length st.length ∧ D = [.c b 3 (I (needT st.length (natB be)))]) (.n _) Tryd.call75 (.cons rfl .nil) (fun w1 hw1 => needs_spec w1 A1 A2 A3 c1 c2 c3 vs st ch be hl1 hl2 hl3 (hp.keep hw1) hv) rfl trivial ?_
  rintro v D ⟨bN, rfl, rfl⟩
  refine V_asg (.n _) rfl rfl ?_   -- 1.2
  refine V_asg (.n _) rfl rfl ?_   -- 1.3
  refine V_sub [(0, _), (1, _), (2, _), (3, _), (4, _)] ⟨rfl, rfl, rfl, rfl, rfl, trivial⟩ ?_
  refine V_nil (.inl rfl) ?_
  refine E_then ?_
  refine J_seq ?_
  refine J_seq ?_
  refine J_region ?_
  first | refine V_fa0 (.n _) fo51_0 rfl rfl ?_ | refine V_faz (.n _) fo51_0 rfl rfl ?_ | refine V_fa (.n _) fo51_0 rfl rfl ?_   -- 2.0
  refine V_ld (.n _) Tryd.isAgg34 rfl (by repeat (first | exact List.Mem.head _ | assumption | apply List.Mem.tail)) (by rfl) rfl ?_   -- 2.1
  refine V_len (.n _) Tryd.underlying34 rfl rfl ?_   -- 2.2
  refine V_mov (.n _) rfl rfl ?_   -- 2.3
  refine V_sub [(0, _), (1, _), (2, _), (3, _), (4, _), (10, _), (11, _)] ⟨rfl, rfl, rfl, rfl, rfl, rfl, rfl, trivial⟩ ?_
  refine V_nil (.inl rfl) ?_
  refine E_then ?_
  refine J_block ?_
  -- loop L0
  refine J_loop (X := Nat) (fun k => [(0, (.agg #[.slice A1 st.length c1, .slice A2 ch.length c2, .slice A3 be.length c3])), (1, (.pointer (some ⟨b1, 0, none⟩))), (2, (.bool false)), (3, (.slice (some ⟨bN, 0, none⟩) st.length st.length)), (4, .int .i64 ((posSet (natB be) st.length k : Nat) : Int)), (10, (.int .i64 ((st.length : Nat) : Int))), (11, .int .i64 (k : Nat))]) (fun k => [.c bN 3 (I (needT st.length (natB be))), .c b1 51 [.slice A1 st.length c1, .slice A2 ch.length c2, .slice A3 be.length c3]]) (fun k => k ≤ st.length) (fun k => st.length - k) (0) (by refine ⟨?_, ?_, ?_, ?_, ?_, ?_, ?_, trivial⟩ <;> first | rfl | exact int_eq (by omega)) (fun w h => h) ?_ ?_
  · omega
  · intro k hk
    refine J_seq ?_
    refine J_region ?_
    refine V_lss (.n _) rfl rfl rfl ?_   -- 3.0
    refine V_sub [(0, _), (1, _), (2, _), (3, _), (4, _), (10, _), (11, _), (12, _)] ⟨rfl, rfl, rfl, rfl, rfl, rfl, rfl, rfl, trivial⟩ ?_
    refine V_nil (.inl rfl) ?_
    refine E_then ?_
    refine J_seq ?_
    refine J_cond rfl (fun h1 => ?_) (fun h1 => ?_)   -- C0
    · skip
      refine J_skip ?_
      refine E_then ?_
      refine J_seq ?_
      refine J_block ?_
      refine J_seq ?_
      refine J_region ?_
      first | refine V_fa0 (.n _) fo51_0 rfl rfl ?_ | refine V_faz (.n _) fo51_0 rfl rfl ?_ | refine V_fa (.n _) fo51_0 rfl rfl ?_   -- 4.0
      refine V_ld (.n _) Tryd.isAgg34 rfl (by repeat (first | exact List.Mem.head _ | assumption | apply List.Mem.tail)) (by rfl) rfl ?_   -- 4.1
      refine V_len (.n _) Tryd.underlying34 rfl rfl ?_   -- 4.2
      refine V_mov (.n _) rfl rfl ?_   -- 4.3
      refine V_sub [(0, _), (1, _), (2, _), (3, _), (4, _), (10, _), (11, _), (12, _), (15, _), (16, _)] ⟨rfl, rfl, rfl, rfl, rfl, rfl, rfl, rfl, rfl, rfl, trivial⟩ ?_
      refine V_nil (.inl rfl) ?_
      refine E_then ?_
      refine J_block ?_
      -- loop L1
      refine J_loop (X := Nat) (fun j => [(0, (.agg #[.slice A1 st.length c1, .slice A2 ch.length c2, .slice A3 be.length c3])), (1, (.pointer (some ⟨b1, 0, none⟩))), (2, (.bool false)), (3, (.slice (some ⟨bN, 0, none⟩) st.length st.length)), (4, .int .i64 ((addAll (natB be) (List.range j) (posSet (natB be) st.length k) : Nat) : Int)), (10, (.int .i64 ((st.length : Nat) : Int))), (11, .int .i64 (k : Nat)), (15, (.int .i64 ((st.length : Nat) : Int))), (16, .int .i64 (j : Nat))]) (fun j => [.c bN 3 (I (needT st.length (natB be))), .c b1 51 [.slice A1 st.length c1, .slice A2 ch.length c2, .slice A3 be.length c3]]) (fun j => j ≤ st.length) (fun j => st.length - j) (0) (by refine ⟨?_, ?_, ?_, ?_, ?_, ?_, ?_, ?_, ?_, trivial⟩ <;> first | rfl | exact int_eq (by omega)) (fun w h => h) ?_ ?_
      · omega
      · intro j hj
        refine J_seq ?_
        refine J_region ?_
        refine V_lss (.n _) rfl rfl rfl ?_   -- 5.0
        refine V_sub [(0, _), (1, _), (2, _), (3, _), (4, _), (10, _), (11, _), (15, _), (16, _), (17, _)] ⟨rfl, rfl, rfl, rfl, rfl, rfl, rfl, rfl, rfl, rfl, trivial⟩ ?_
        refine V_nil (.inl rfl) ?_
        refine E_then ?_
        refine J_seq ?_
        refine J_cond rfl (fun h2 => ?_) (fun h2 => ?_)   -- C1
        · skip
          refine J_skip ?_
          refine E_then ?_
          refine J_seq ?_
          refine J_block ?_
          refine J_seq ?_
          refine J_region ?_
          refine V_mov (.n _) rfl rfl ?_   -- 6.0
          refine V_asg (.n _) rfl rfl ?_   -- 6.1
          refine V_sub [(0, _), (1, _), (2, _), (3, _), (4, _), (5, _), (10, _), (11, _), (15, _), (16, _), (17, _)] ⟨rfl, rfl, rfl, rfl, rfl, rfl, rfl, rfl, rfl, rfl, rfl, trivial⟩ ?_
          refine V_nil (.inl rfl) ?_
          refine E_then ?_
          refine J_seq ?_
          refine J_region ?_
          refine V_mov (.n _) rfl rfl ?_   -- 7.0
          refine V_mov (.n _) rfl rfl ?_   -- 7.1
          refine V_mov (.n _) rfl rfl ?_   -- 7.2
          refine V_call0 (.n _) Tryd.call78 (.cons rfl (.cons rfl (.cons rfl .nil))) (fun w1 hw1 => follows_spec w1 (some ⟨bN, 0, none⟩) st.length st.length (addAll (natB be) (List.range j) (posSet (natB be) st.length k)) j (natB be) hn10 (addAll_lt j _ (by omega) (posSet_lt k)) (by omega) (hv.needF j) (Rd.own hw1 (t := 3) (by repeat (first | exact List.Mem.head _ | assumption | apply List.Mem.tail)))) rfl trivial ?_   -- 7.3
          refine V_sub [(0, _), (1, _), (2, _), (3, _), (4, _), (5, _), (10, _), (11, _), (15, _), (16, _), (17, _), (22, _)] ⟨rfl, rfl, rfl, rfl, rfl, rfl, rfl, rfl, rfl, rfl, rfl, rfl, trivial⟩ ?_
          refine V_nil (.inl rfl) ?_
          refine E_then ?_
          refine J_condB rfl (fun h3 => ?_) (fun h3 => ?_)   -- C2
          · skip
            refine J_region ?_
            refine V_mov (.n _) rfl rfl ?_   -- 8.0
            refine V_mov (.n _) rfl rfl ?_   -- 8.1
            refine V_shl (.n _) rfl rfl (by omega) (by simp [IntKind.bits]; omega) (by rw [shl_nat]; exact wrap_nat (lt63 (Nat.pow_lt_pow_right (by decide) (show j < 10 by omega)) (Nat.le_refl _))) rfl ?_   -- 8.2
            rw [shl_nat]
            refine V_or (r := ((addAll (natB be) (List.range j) (posSet (natB be) st.length k) ||| 2 ^ j : Nat) : Int)) (.n _) rfl rfl (bits_or (lt63 (addAll_lt j _ (by omega) (posSet_lt k)) hn10) (lt63 (Nat.pow_lt_pow_right (by decide) (show j < 10 by omega)) (Nat.le_refl _))) rfl ?_   -- 8.3
            refine V_asg (.n _) rfl rfl ?_   -- 8.4
            refine V_sub [(0, _), (1, _), (2, _), (3, _), (4, _), (5, _), (10, _), (11, _), (15, _), (16, _), (17, _), (22, _)] ⟨rfl, rfl, rfl, rfl, rfl, rfl, rfl, rfl, rfl, rfl, rfl, rfl, trivial⟩ ?_
            refine V_nil (.inl rfl) ?_
            refine E_blk ?_
            refine E_then ?_
            refine J_region ?_
            refine V_add (.n _) rfl rfl (wrap_ok (by omega)) rfl ?_   -- 9.0
            refine V_mov (.n _) rfl rfl ?_   -- 9.1
            refine V_sub [(0, _), (1, _), (2, _), (3, _), (4, _), (5, _), (10, _), (11, _), (15, _), (16, _), (17, _), (22, _)] ⟨rfl, rfl, rfl, rfl, rfl, rfl, rfl, rfl, rfl, rfl, rfl, rfl, trivial⟩ ?_
            refine V_nil (.inl rfl) ?_
            -- again L1 0
            have hnx := addAll_next (B := natB be) (s := posSet (natB be) st.length k) (j := j)
            rw [if_pos (by assumption)] at hnx
            refine E_again (j + 1) ?_ ?_ ?_ (fun w h => h)
            · omega
            · omega
            · refine ⟨?_, ?_, ?_, ?_, ?_, ?_, ?_, ?_, ?_, trivial⟩ <;> first | rfl | exact int_eq (by rw [hnx]) | exact int_eq (by omega)
          · skip
            refine J_skip ?_
            refine E_blk ?_
            refine E_then ?_
            refine J_region ?_
            refine V_add (.n _) rfl rfl (wrap_ok (by omega)) rfl ?_   -- 9.0
            refine V_mov (.n _) rfl rfl ?_   -- 9.1
            refine V_sub [(0, _), (1, _), (2, _), (3, _), (4, _), (5, _), (10, _), (11, _), (15, _), (16, _), (17, _), (22, _)] ⟨rfl, rfl, rfl, rfl, rfl, rfl, rfl, rfl, rfl, rfl, rfl, rfl, trivial⟩ ?_
            refine V_nil (.inl rfl) ?_
            -- again L1 1
            have hnx := addAll_next (B := natB be) (s := posSet (natB be) st.length k) (j := j)
            rw [if_neg (by simp_all)] at hnx
            refine E_again (j + 1) ?_ ?_ ?_ (fun w h => h)
            · omega
            · omega
            · refine ⟨?_, ?_, ?_, ?_, ?_, ?_, ?_, ?_, ?_, trivial⟩ <;> first | rfl | exact int_eq (by rw [hnx]) | exact int_eq (by omega)
        · skip
          refine J_exit ?_
          refine E_then_exit ?_
          refine E_lp_exit ?_
          refine E_blk_hit ?_
          refine E_blk ?_
          refine E_then ?_
          refine J_region ?_
          refine V_add (.n _) rfl rfl (wrap_ok (by omega)) rfl ?_   -- 10.0
          refine V_mov (.n _) rfl rfl ?_   -- 10.1
          refine V_sub [(0, _), (1, _), (2, _), (3, _), (4, _), (10, _), (11, _), (15, _), (16, _), (17, _)] ⟨rfl, rfl, rfl, rfl, rfl, rfl, rfl, rfl, rfl, rfl, trivial⟩ ?_
          refine V_nil (.inl rfl) ?_
          -- again L0 0
          obtain rfl : j = st.length := by omega
          refine E_again (k + 1) ?_ ?_ ?_ (fun w h => h)
          · omega
          · omega
          · refine ⟨?_, ?_, ?_, ?_, ?_, ?_, ?_, trivial⟩ <;> first | rfl | exact int_eq (by omega) | exact int_eq (by dsimp only; omega)
    · skip
      refine J_exit ?_
      refine E_then_exit ?_
      refine E_lp_exit ?_
      refine E_blk_hit ?_
      refine E_then ?_
      refine J_seq ?_
      refine J_region ?_
      refine V_mov (.n _) rfl rfl ?_   -- 11.0
      first | refine V_fa0 (.n _) fo51_0 rfl rfl ?_ | refine V_faz (.n _) fo51_0 rfl rfl ?_ | refine V_fa (.n _) fo51_0 rfl rfl ?_   -- 11.1
      refine V_ld (.n _) Tryd.isAgg34 rfl (by repeat (first | exact List.Mem.head _ | assumption | apply List.Mem.tail)) (by rfl) rfl ?_   -- 11.2
      refine V_len (.n _) Tryd.underlying34 rfl rfl ?_   -- 11.3
      refine V_shl (.n _) rfl rfl (by omega) (by simp [IntKind.bits]; omega) (by rw [shl_nat]; exact wrap_nat (by omega)) rfl ?_   -- 11.4
      rw [shl_nat]
      refine V_sub1 (.n _) rfl rfl (wrap_ok (by omega)) rfl ?_   -- 11.5
      refine V_eql (.n _) rfl rfl rfl ?_   -- 11.6
      refine V_asg (.n _) rfl rfl ?_   -- 11.7
      refine V_sub [(0, _), (1, _), (2, _), (3, _), (4, _), (10, _), (11, _), (12, _)] ⟨rfl, rfl, rfl, rfl, rfl, rfl, rfl, rfl, trivial⟩ ?_
      refine V_nil (.inl rfl) ?_
      refine E_then ?_
      refine J_ret ?_
      -- return R0
      refine E_ret1 Tryd.results74 rfl (fun w hw => ?_)
      obtain rfl : k = st.length := by omega
      refine ⟨?_, hw.sub (fun x hx => by simp at hx) (by simp [keys])⟩
      rw [possible]
      congr 2
      exact decide_eq_decide.2 (by omega)

theorem rfollows_spec (w : World) (A1 A2 A3 : Option Addr) (c1 c2 c3 : Nat) (vs : List Value) (st : List Int) (ch : Rows2) (be : List (Int × Int)) (hl1 : st.length ≤ 140737488351232) (hl2 : ch.length ≤ 140737488351232) (hl3 : be.length ≤ 140737488351232) (hp : PR w A1 A2 A3 vs st ch be) (s j : Nat) (hv : VP st ch be) (hs : s < 2 ^ st.length) (hj : j < st.length) : Calls Tryd.prog 83 #[.agg #[.slice A1 st.length c1, .slice A2 ch.length c2, .slice A3 be.length c3], .int .i64 s, .int .i64 j] w fun e w' => e = .returned (.bool (fol (natB be) s j)) ∧ St w [] w' := by
  have hn10 := hv.n10
  have hs63 := lt63 hs hn10
  refine calls (args := [.agg #[.slice A1 st.length c1, .slice A2 ch.length c2, .slice A3 be.length c3], .int .i64 s, .int .i64 j]) Tryd.func83 rfl Tryd.ntmps83 (Nat.le_of_ble_eq_true rfl) (St.refl w) ?_
  refine J_seq ?_
  refine J_region ?_
  refine V_box (.n _) rfl rfl rfl (fun _ => trivial) (fun b3 => ?_)   -- 0.0
  refine V_asg (.n _) rfl rfl ?_   -- 0.1
  refine V_sub [(0, _), (1, _), (2, _), (3, _), (6, _)] ⟨rfl, rfl, rfl, rfl, rfl, trivial⟩ ?_
  refine V_nil (.inl rfl) ?_
  refine E_then ?_
  refine J_seq ?_
  refine J_seq ?_
  refine J_region ?_
  first | refine V_fa0 (.n _) fo48_2 rfl rfl ?_ | refine V_faz (.n _) fo48_2 rfl rfl ?_ | refine V_fa (.n _) fo48_2 rfl rfl ?_   -- 1.0
  refine V_ld (.n _) Tryd.isAgg46 rfl (by repeat (first | exact List.Mem.head _ | assumption | apply List.Mem.tail)) (by rfl) rfl ?_   -- 1.1
  refine V_len (.n _) Tryd.underlying46 rfl rfl ?_   -- 1.2
  refine V_mov (.n _) rfl rfl ?_   -- 1.3
  refine V_sub [(0, _), (1, _), (2, _), (3, _), (6, _), (10, _), (11, _), (12, _)] ⟨rfl, rfl, rfl, rfl, rfl, rfl, rfl, rfl, trivial⟩ ?_
  refine V_nil (.inl rfl) ?_
  refine E_then ?_
  refine J_block ?_
  -- loop L0
  refine J_loop (X := Nat) (fun k => [(0, (.agg #[.slice A1 st.length c1, .slice A2 ch.length c2, .slice A3 be.length c3])), (1, (.int .i64 s)), (2, (.int .i64 j)), (3, (.pointer (some ⟨b3, 0, none⟩))), (10, (.slice A3 be.length c3)), (11, (.int .i64 ((be.length : Nat) : Int))), (12, .int .i64 (k : Nat))]) (fun k => [.c b3 48 [.slice A1 st.length c1, .slice A2 ch.length c2, .slice A3 be.length c3]]) (fun k => k ≤ be.length ∧ ∀ i, i < k → (!((natB be).getD i (0, 0)).2 == j || s.testBit ((natB be).getD i (0, 0)).1) = true) (fun k => be.length - k) (0) (by refine ⟨?_, ?_, ?_, ?_, ?_, ?_, ?_, trivial⟩ <;> first | rfl | exact int_eq (by omega)) (fun w h => h) ?_ ?_
  · exact ⟨by omega, fun i hi => by omega⟩
  · rintro k ⟨hk, hk2⟩
    refine J_seq ?_
    refine J_region ?_
    refine V_lss (.n _) rfl rfl rfl ?_   -- 2.0
    refine V_sub [(0, _), (1, _), (2, _), (3, _), (10, _), (11, _), (12, _), (13, _)] ⟨rfl, rfl, rfl, rfl, rfl, rfl, rfl, rfl, trivial⟩ ?_
    refine V_nil (.inl rfl) ?_
    refine E_then ?_
    refine J_seq ?_
    refine J_cond rfl (fun h1 => ?_) (fun h1 => ?_)   -- C0
    · skip
      refine J_skip ?_
      refine E_then ?_
      refine J_seq ?_
      refine J_block ?_
      refine J_seq ?_
      refine J_region ?_
      first | refine V_ix (.n _) Tryd.underlying46 Tryd.sizeOf49 rfl rfl (by omega) (by omega) rfl ?_ | refine V_ixz (.n _) Tryd.underlying46 Tryd.sizeOf49 rfl rfl (hp.h3.pl (by simp; omega)) (by omega) (by omega) rfl ?_   -- 3.0
      obtain ⟨x, y, hxy, hx, hy, hn⟩ := hv.pair (i := k) (by omega)
      have hbp := Bp_two (be := be) (i := k) (by omega)
      rw [hxy] at hbp
      refine V_ldzN (vs := [.int .i64 (x : Nat), .int .i64 (y : Nat)]) (.n _) Tryd.isAgg49 Tryd.sizeOf49 rfl hp.h3 hbp rfl rfl ?_   -- 3.1
      refine V_alloc (.n _) Tryd.zeroValue49 rfl rfl (fun _ => trivial) (fun b8 => ?_)   -- 3.2
      refine V_stN (.n _) Tryd.sizeOf49 rfl rfl rfl (by simp [Value.oneCell']) (by repeat (first | exact SetAt.z | apply SetAt.s)) rfl rfl ?_   -- 3.3
      refine V_sub [(0, _), (1, _), (2, _), (3, _), (8, _), (10, _), (11, _), (12, _), (13, _)] ⟨rfl, rfl, rfl, rfl, rfl, rfl, rfl, rfl, rfl, trivial⟩ ?_
      refine V_nil (.inl rfl) ?_
      refine E_then ?_
      refine J_seq ?_
      refine J_region ?_
      refine V_ixA (.n _) Tryd.underlying49 Tryd.sizeOf3 rfl rfl (by omega) (by omega) rfl ?_   -- 4.0
      refine V_ld (.n _) Tryd.isAgg3 rfl (by repeat (first | exact List.Mem.head _ | assumption | apply List.Mem.tail)) (by rfl) rfl ?_   -- 4.1
      refine V_mov (.n _) rfl rfl ?_   -- 4.2
      refine V_eql (.n _) rfl rfl rfl ?_   -- 4.3
      refine V_mov (.n _) rfl rfl ?_   -- 4.4
      refine V_split 20 rfl (fun h2 => ?_) (fun h2 => ?_)   -- guard 4.4
      · skip
        refine V_go (4, true) rfl ?_
        refine V_mov (.n _) rfl rfl ?_   -- 4.5
        refine V_go (4, true) rfl ?_
        refine V_ixA (.n _) Tryd.underlying49 Tryd.sizeOf3 rfl rfl (by omega) (by omega) rfl ?_   -- 4.6
        refine V_go (4, true) rfl ?_
        refine V_ld (.n _) Tryd.isAgg3 rfl (by repeat (first | exact List.Mem.head _ | assumption | apply List.Mem.tail)) (by rfl) rfl ?_   -- 4.7
        refine V_go (4, true) rfl ?_
        refine V_shr (.n _) rfl rfl (by omega) (by simp [IntKind.bits]; omega) rfl ?_   -- 4.8
        rw [shr_nat]
        refine V_go (4, true) rfl ?_
        refine V_and (r := if s.testBit x then 1 else 0) (.n _) rfl rfl (bit_of s x hs63) rfl ?_   -- 4.9
        refine V_go (4, true) rfl ?_
        refine V_eql (.n _) rfl rfl rfl ?_   -- 4.10
        rw [bit0]
        refine V_pickT (.n _) rfl rfl rfl ?_   -- 4.11
        refine V_sub [(0, _), (1, _), (2, _), (3, _), (8, _), (10, _), (11, _), (12, _), (13, _), (27, _)] ⟨rfl, rfl, rfl, rfl, rfl, rfl, rfl, rfl, rfl, rfl, trivial⟩ ?_
        refine V_nil (.inl rfl) ?_
        refine E_then ?_
        refine J_condB rfl (fun h3 => ?_) (fun h3 => ?_)   -- C1
        · skip
          refine J_seq ?_
          refine J_region ?_
          refine V_asg (.n _) rfl rfl ?_   -- 5.0
          refine V_sub [(0, _), (1, _), (2, _), (3, _), (6, _), (8, _), (10, _), (11, _), (12, _), (13, _), (27, _)] ⟨rfl, rfl, rfl, rfl, rfl, rfl, rfl, rfl, rfl, rfl, rfl, trivial⟩ ?_
          refine V_nil (.inl rfl) ?_
          refine E_then ?_
          refine J_ret ?_
          refine E_blk_ret ?_
          refine E_then_ret ?_
          refine E_lp_ret ?_
          refine E_blk_ret ?_
          refine E_then_ret ?_
          -- return R0
          refine E_ret1 Tryd.results83 rfl (fun w hw => ?_)
          refine ⟨?_, hw.sub (fun x hx => by simp at hx) (by simp [keys])⟩
          have hm : (x, y) ∈ natB be := hn ▸ getD_mem (d := (0, 0)) (by rw [natB_length]; omega)
          obtain rfl : y = j := by omega
          rw [show fol (natB be) s y = false from ?_]
          unfold fol
          rw [show (natB be).all _ = false from List.all_eq_false.2 ⟨_, hm, by simp_all⟩, Bool.and_false]
        · skip
          refine J_skip ?_
          refine E_blk ?_
          refine E_then ?_
          refine J_region ?_
          refine V_add (.n _) rfl rfl (wrap_ok (by omega)) rfl ?_   -- 6.0
          refine V_mov (.n _) rfl rfl ?_   -- 6.1
          refine V_sub [(0, _), (1, _), (2, _), (3, _), (8, _), (10, _), (11, _), (12, _), (13, _), (27, _)] ⟨rfl, rfl, rfl, rfl, rfl, rfl, rfl, rfl, rfl, rfl, trivial⟩ ?_
          refine V_nil (.inl rfl) ?_
          -- again L0 0
          refine E_again (k + 1) ?_ ?_ ?_ (fun w h => h.sublist (by simp))
          · omega
          · refine ⟨by omega, fun i hi => ?_⟩
            by_cases e : i = k
            · subst e
              rw [hn]
              first
                | exact or_left (by omega)
                | exact or_right (by simp_all)
            · exact hk2 i (by omega)
          · refine ⟨?_, ?_, ?_, ?_, ?_, ?_, ?_, trivial⟩ <;> first | rfl | exact int_eq (by omega) | exact int_eq (by dsimp only; omega)
      · skip
        refine V_pass (.n .p) (4, true) rfl rfl ?_   -- 4.5
        refine V_pass (.n .p) (4, true) rfl rfl ?_   -- 4.6
        refine V_pass (.n .p) (4, true) rfl rfl ?_   -- 4.7
        refine V_pass (.n .p) (4, true) rfl rfl ?_   -- 4.8
        refine V_pass (.n .p) (4, true) rfl rfl ?_   -- 4.9
        refine V_pass (.n .p) (4, true) rfl rfl ?_   -- 4.10
        refine V_pickF (.n _) rfl rfl rfl ?_   -- 4.11
        refine V_sub [(0, _), (1, _), (2, _), (3, _), (8, _), (10, _), (11, _), (12, _), (13, _), (27, _)] ⟨rfl, rfl, rfl, rfl, rfl, rfl, rfl, rfl, rfl, rfl, trivial⟩ ?_
        refine V_nil (.inl rfl) ?_
        refine E_then ?_
        refine J_condF rfl ?_
        refine J_skip ?_
        refine E_blk ?_
        refine E_then ?_
        refine J_region ?_
        refine V_add (.n _) rfl rfl (wrap_ok (by omega)) rfl ?_   -- 6.0
        refine V_mov (.n _) rfl rfl ?_   -- 6.1
        refine V_sub [(0, _), (1, _), (2, _), (3, _), (8, _), (10, _), (11, _), (12, _), (13, _), (27, _)] ⟨rfl, rfl, rfl, rfl, rfl, rfl, rfl, rfl, rfl, rfl, trivial⟩ ?_
        refine V_nil (.inl rfl) ?_
        -- again L0 1
        refine E_again (k + 1) ?_ ?_ ?_ (fun w h => h.sublist (by simp))
        · omega
        · refine ⟨by omega, fun i hi => ?_⟩
          by_cases e : i = k
          · subst e
            rw [hn]
            first
              | exact or_left (by omega)
              | exact or_right (by simp_all)
          · exact hk2 i (by omega)
        · refine ⟨?_, ?_, ?_, ?_, ?_, ?_, ?_, trivial⟩ <;> first | rfl | exact int_eq (by omega) | exact int_eq (by dsimp only; omega)
    · skip
      refine J_exit ?_
      refine E_then_exit ?_
      refine E_lp_exit ?_
      refine E_blk_hit ?_
      refine E_then ?_
      refine J_seq ?_
      refine J_region ?_
      refine V_mov (.n _) rfl rfl ?_   -- 7.0
      refine V_mov (.n _) rfl rfl ?_   -- 7.1
      refine V_shr (.n _) rfl rfl (by omega) (by simp [IntKind.bits]; omega) rfl ?_   -- 7.2
      rw [shr_nat]
      refine V_and (r := if s.testBit j then 1 else 0) (.n _) rfl rfl (bit_of s j hs63) rfl ?_   -- 7.3
      refine V_eql (.n _) rfl rfl rfl ?_   -- 7.4
      rw [bit0]
      refine V_asg (.n _) rfl rfl ?_   -- 7.5
      refine V_sub [(0, _), (1, _), (2, _), (3, _), (6, _), (10, _), (11, _), (12, _), (13, _)] ⟨rfl, rfl, rfl, rfl, rfl, rfl, rfl, rfl, rfl, trivial⟩ ?_
      refine V_nil (.inl rfl) ?_
      refine E_then ?_
      refine J_ret ?_
      -- return R1
      refine E_ret1 Tryd.results83 rfl (fun w hw => ?_)
      refine ⟨?_, hw.sub (fun x hx => by simp at hx) (by simp [keys])⟩
      unfold fol
      rw [show (natB be).all _ = true from List.all_eq_true.2 fun b hb => ?_, Bool.and_true]
      obtain ⟨i, hi, rfl⟩ := List.mem_iff_getElem.1 hb
      have := hk2 i (by rw [natB_length] at hi; omega)
      simpa [hi] using this

theorem rpossible_spec (w : World) (A1 A2 A3 : Option Addr) (c1 c2 c3 : Nat) (vs : List Value) (st : List Int) (ch : Rows2) (be : List (Int × Int)) (hl1 : st.length ≤ 140737488351232) (hl2 : ch.length ≤ 140737488351232) (hl3 : be.length ≤ 140737488351232) (hp : PR w A1 A2 A3 vs st ch be) (hv : VP st ch be) : Calls Tryd.prog 81 #[.agg #[.slice A1 st.length c1, .slice A2 ch.length c2, .slice A3 be.length c3]] w fun e w' => e = .returned (.bool (possible (natB be) st.length)) ∧ St w [] w' := by
  have hn10 := hv.n10
  have hp1 := pow1024 hn10
  have hp0 := Nat.pow_pos (n := st.length) (show 0 < 2 by decide)
  refine calls (args := [.agg #[.slice A1 st.length c1, .slice A2 ch.length c2, .slice A3 be.length c3]]) Tryd.func81 rfl Tryd.ntmps81 (Nat.le_of_ble_eq_true rfl) (St.refl w) ?_
  refine J_seq ?_
  refine J_region ?_
  refine V_box (.n _) rfl rfl rfl (fun _ => trivial) (fun b1 => ?_)   -- 0.0
  refine V_asg (.n _) rfl rfl ?_   -- 0.1
  refine V_sub [(0, _), (1, _), (2, _)] ⟨rfl, rfl, rfl, trivial⟩ ?_
  refine V_nil (.inl rfl) ?_
  refine E_then ?_
  refine J_seq ?_
  refine J_region ?_
  refine V_asg (.n _) rfl rfl ?_   -- 1.0
  refine V_sub [(0, _), (1, _), (2, _), (3, _)] ⟨rfl, rfl, rfl, rfl, trivial⟩ ?_
  refine V_nil (.inl rfl) ?_
  refine E_then ?_
  refine J_seq ?_
  refine J_seq ?_
  refine J_region ?_
  first | refine V_fa0 (.n _) fo48_0 rfl rfl ?_ | refine V_faz (.n _) fo48_0 rfl rfl ?_ | refine V_fa (.n _) fo48_0 rfl rfl ?_   -- 2.0
  refine V_ld (.n _) Tryd.isAgg34 rfl (by repeat (first | exact List.Mem.head _ | assumption | apply List.Mem.tail)) (by rfl) rfl ?_   -- 2.1
  refine V_len (.n _) Tryd.underlying34 rfl rfl ?_   -- 2.2
  refine V_mov (.n _) rfl rfl ?_   -- 2.3
  refine V_sub [(0, _), (1, _), (2, _), (3, _), (7, _), (8, _)] ⟨rfl, rfl, rfl, rfl, rfl, rfl, trivial⟩ ?_
  refine V_nil (.inl rfl) ?_
  refine E_then ?_
  refine J_block ?_
  -- loop L0
  refine J_loop (X := Nat) (fun k => [(0, (.agg #[.slice A1 st.length c1, .slice A2 ch.length c2, .slice A3 be.length c3])), (1, (.pointer (some ⟨b1, 0, none⟩))), (2, (.bool false)), (3, .int .i64 ((posSet (natB be) st.length k : Nat) : Int)), (7, (.int .i64 ((st.length : Nat) : Int))), (8, .int .i64 (k : Nat))]) (fun k => [.c b1 48 [.slice A1 st.length c1, .slice A2 ch.length c2, .slice A3 be.length c3]]) (fun k => k ≤ st.length) (fun k => st.length - k) (0) (by refine ⟨?_, ?_, ?_, ?_, ?_, ?_, trivial⟩ <;> first | rfl | exact int_eq (by omega)) (fun w h => h) ?_ ?_
  · omega
  · intro k hk
    refine J_seq ?_
    refine J_region ?_
    refine V_lss (.n _) rfl rfl rfl ?_   -- 3.0
    refine V_sub [(0, _), (1, _), (2, _), (3, _), (7, _), (8, _), (9, _)] ⟨rfl, rfl, rfl, rfl, rfl, rfl, rfl, trivial⟩ ?_
    refine V_nil (.inl rfl) ?_
    refine E_then ?_
    refine J_seq ?_
    refine J_cond rfl (fun h1 => ?_) (fun h1 => ?_)   -- C0
    · skip
      refine J_skip ?_
      refine E_then ?_
      refine J_seq ?_
      refine J_block ?_
      refine J_seq ?_
      refine J_region ?_
      first | refine V_fa0 (.n _) fo48_0 rfl rfl ?_ | refine V_faz (.n _) fo48_0 rfl rfl ?_ | refine V_fa (.n _) fo48_0 rfl rfl ?_   -- 4.0
      refine V_ld (.n _) Tryd.isAgg34 rfl (by repeat (first | exact List.Mem.head _ | assumption | apply List.Mem.tail)) (by rfl) rfl ?_   -- 4.1
      refine V_len (.n _) Tryd.underlying34 rfl rfl ?_   -- 4.2
      refine V_mov (.n _) rfl rfl ?_   -- 4.3
      refine V_sub [(0, _), (1, _), (2, _), (3, _), (7, _), (8, _), (9, _), (12, _), (13, _)] ⟨rfl, rfl, rfl, rfl, rfl, rfl, rfl, rfl, rfl, trivial⟩ ?_
      refine V_nil (.inl rfl) ?_
      refine E_then ?_
      refine J_block ?_
      -- loop L1
      refine J_loop (X := Nat) (fun j => [(0, (.agg #[.slice A1 st.length c1, .slice A2 ch.length c2, .slice A3 be.length c3])), (1, (.pointer (some ⟨b1, 0, none⟩))), (2, (.bool false)), (3, .int .i64 ((addAll (natB be) (List.range j) (posSet (natB be) st.length k) : Nat) : Int)), (7, (.int .i64 ((st.length : Nat) : Int))), (8, .int .i64 (k : Nat)), (12, (.int .i64 ((st.length : Nat) : Int))), (13, .int .i64 (j : Nat))]) (fun j => [.c b1 48 [.slice A1 st.length c1, .slice A2 ch.length c2, .slice A3 be.length c3]]) (fun j => j ≤ st.length) (fun j => st.length - j) (0) (by refine ⟨?_, ?_, ?_, ?_, ?_, ?_, ?_, ?_, trivial⟩ <;> first | rfl | exact int_eq (by omega)) (fun w h => h) ?_ ?_
      · omega
      · intro j hj
        refine J_seq ?_
        refine J_region ?_
        refine V_lss (.n _) rfl rfl rfl ?_   -- 5.0
        refine V_sub [(0, _), (1, _), (2, _), (3, _), (7, _), (8, _), (12, _), (13, _), (14, _)] ⟨rfl, rfl, rfl, rfl, rfl, rfl, rfl, rfl, rfl, trivial⟩ ?_
        refine V_nil (.inl rfl) ?_
        refine E_then ?_
        refine J_seq ?_
        refine J_cond rfl (fun h2 => ?_) (fun h2 => ?_)   -- C1
        · skip
          refine J_skip ?_
          refine E_then ?_
          refine J_seq ?_
          refine J_block ?_
          refine J_seq ?_
          refine J_region ?_
          refine V_mov (.n _) rfl rfl ?_   -- 6.0
          refine V_asg (.n _) rfl rfl ?_   -- 6.1
          refine V_sub [(0, _), (1, _), (2, _), (3, _), (4, _), (7, _), (8, _), (12, _), (13, _), (14, _)] ⟨rfl, rfl, rfl, rfl, rfl, rfl, rfl, rfl, rfl, rfl, trivial⟩ ?_
          refine V_nil (.inl rfl) ?_
          refine E_then ?_
          refine J_seq ?_
          refine J_region ?_
          refine V_ldN (.n _) Tryd.isAgg48 Tryd.sizeOf48 rfl (by repeat (first | exact List.Mem.head _ | assumption | apply List.Mem.tail)) (by rfl) rfl rfl ?_   -- 7.0
          refine V_mov (.n _) rfl rfl ?_   -- 7.1
          refine V_mov (.n _) rfl rfl ?_   -- 7.2
          refine V_call0 (.n _) Tryd.call83 (.cons rfl (.cons rfl (.cons rfl .nil))) (fun w1 hw1 => rfollows_spec w1 A1 A2 A3 c1 c2 c3 vs st ch be hl1 hl2 hl3 (hp.keep hw1) (addAll (natB be) (List.range j) (posSet (natB be) st.length k)) j hv (addAll_lt j _ (by omega) (posSet_lt k)) (by omega)) rfl trivial ?_   -- 7.3
          refine V_sub [(0, _), (1, _), (2, _), (3, _), (4, _), (7, _), (8, _), (12, _), (13, _), (14, _), (19, _)] ⟨rfl, rfl, rfl, rfl, rfl, rfl, rfl, rfl, rfl, rfl, rfl, trivial⟩ ?_
          refine V_nil (.inl rfl) ?_
          refine E_then ?_
          refine J_condB rfl (fun h3 => ?_) (fun h3 => ?_)   -- C2
          · skip
            refine J_region ?_
            refine V_mov (.n _) rfl rfl ?_   -- 8.0
            refine V_mov (.n _) rfl rfl ?_   -- 8.1
            refine V_shl (.n _) rfl rfl (by omega) (by simp [IntKind.bits]; omega) (by rw [shl_nat]; exact wrap_nat (lt63 (Nat.pow_lt_pow_right (by decide) (show j < 10 by omega)) (Nat.le_refl _))) rfl ?_   -- 8.2
            rw [shl_nat]
            refine V_or (r := ((addAll (natB be) (List.range j) (posSet (natB be) st.length k) ||| 2 ^ j : Nat) : Int)) (.n _) rfl rfl (bits_or (lt63 (addAll_lt j _ (by omega) (posSet_lt k)) hn10) (lt63 (Nat.pow_lt_pow_right (by decide) (show j < 10 by omega)) (Nat.le_refl _))) rfl ?_   -- 8.3
            refine V_asg (.n _) rfl rfl ?_   -- 8.4
            refine V_sub [(0, _), (1, _), (2, _), (3, _), (4, _), (7, _), (8, _), (12, _), (13, _), (14, _), (19, _)] ⟨rfl, rfl, rfl, rfl, rfl, rfl, rfl, rfl, rfl, rfl, rfl, trivial⟩ ?_
            refine V_nil (.inl rfl) ?_
            refine E_blk ?_
            refine E_then ?_
            refine J_region ?_
            refine V_add (.n _) rfl rfl (wrap_ok (by omega)) rfl ?_   -- 9.0
            refine V_mov (.n _) rfl rfl ?_   -- 9.1
            refine V_sub [(0, _), (1, _), (2, _), (3, _), (4, _), (7, _), (8, _), (12, _), (13, _), (14, _), (19, _)] ⟨rfl, rfl, rfl, rfl, rfl, rfl, rfl, rfl, rfl, rfl, rfl, trivial⟩ ?_
            refine V_nil (.inl rfl) ?_
            -- again L1 0
            have hnx := addAll_next (B := natB be) (s := posSet (natB be) st.length k) (j := j)
            rw [if_pos (by assumption)] at hnx
            refine E_again (j + 1) ?_ ?_ ?_ (fun w h => h)
            · omega
            · omega
            · refine ⟨?_, ?_, ?_, ?_, ?_, ?_, ?_, ?_, trivial⟩ <;> first | rfl | exact int_eq (by rw [hnx]) | exact int_eq (by omega)
          · skip
            refine J_skip ?_
            refine E_blk ?_
            refine E_then ?_
            refine J_region ?_
            refine V_add (.n _) rfl rfl (wrap_ok (by omega)) rfl ?_   -- 9.0
            refine V_mov (.n _) rfl rfl ?_   -- 9.1
            refine V_sub [(0, _), (1, _), (2, _), (3, _), (4, _), (7, _), (8, _), (12, _), (13, _), (14, _), (19, _)] ⟨rfl, rfl, rfl, rfl, rfl, rfl, rfl, rfl, rfl, rfl, rfl, trivial⟩ ?_
            refine V_nil (.inl rfl) ?_
            -- again L1 1
            have hnx := addAll_next (B := natB be) (s := posSet (natB be) st.length k) (j := j)
            rw [if_neg (by simp_all)] at hnx
            refine E_again (j + 1) ?_ ?_ ?_ (fun w h => h)
            · omega
            · omega
            · refine ⟨?_, ?_, ?_, ?_, ?_, ?_, ?_, ?_, trivial⟩ <;> first | rfl | exact int_eq (by rw [hnx]) | exact int_eq (by omega)
        · skip
          refine J_exit ?_
          refine E_then_exit ?_
          refine E_lp_exit ?_
          refine E_blk_hit ?_
          refine E_blk ?_
          refine E_then ?_
          refine J_region ?_
          refine V_add (.n _) rfl rfl (wrap_ok (by omega)) rfl ?_   -- 10.0
          refine V_mov (.n _) rfl rfl ?_   -- 10.1
          refine V_sub [(0, _), (1, _), (2, _), (3, _), (7, _), (8, _), (12, _), (13, _), (14, _)] ⟨rfl, rfl, rfl, rfl, rfl, rfl, rfl, rfl, rfl, trivial⟩ ?_
          refine V_nil (.inl rfl) ?_
          -- again L0 0
          obtain rfl : j = st.length := by omega
          refine E_again (k + 1) ?_ ?_ ?_ (fun w h => h)
          · omega
          · omega
          · refine ⟨?_, ?_, ?_, ?_, ?_, ?_, trivial⟩ <;> first | rfl | exact int_eq (by omega) | exact int_eq (by dsimp only; omega)
    · skip
      refine J_exit ?_
      refine E_then_exit ?_
      refine E_lp_exit ?_
      refine E_blk_hit ?_
      refine E_then ?_
      refine J_seq ?_
      refine J_region ?_
      refine V_mov (.n _) rfl rfl ?_   -- 11.0
      first | refine V_fa0 (.n _) fo48_0 rfl rfl ?_ | refine V_faz (.n _) fo48_0 rfl rfl ?_ | refine V_fa (.n _) fo48_0 rfl rfl ?_   -- 11.1
      refine V_ld (.n _) Tryd.isAgg34 rfl (by repeat (first | exact List.Mem.head _ | assumption | apply List.Mem.tail)) (by rfl) rfl ?_   -- 11.2
      refine V_len (.n _) Tryd.underlying34 rfl rfl ?_   -- 11.3
      refine V_shl (.n _) rfl rfl (by omega) (by simp [IntKind.bits]; omega) (by rw [shl_nat]; exact wrap_nat (by omega)) rfl ?_   -- 11.4
      rw [shl_nat]
      refine V_sub1 (.n _) rfl rfl (wrap_ok (by omega)) rfl ?_   -- 11.5
      refine V_eql (.n _) rfl rfl rfl ?_   -- 11.6
      refine V_asg (.n _) rfl rfl ?_   -- 11.7
      refine V_sub [(0, _), (1, _), (2, _), (3, _), (7, _), (8, _), (9, _)] ⟨rfl, rfl, rfl, rfl, rfl, rfl, rfl, trivial⟩ ?_
      refine V_nil (.inl rfl) ?_
      refine E_then ?_
      refine J_ret ?_
      -- return R0
      refine E_ret1 Tryd.results81 rfl (fun w hw => ?_)
      obtain rfl : k = st.length := by omega
      refine ⟨?_, hw.sub (fun x hx => by simp at hx) (by simp [keys])⟩
      rw [possible]
      congr 2
      exact decide_eq_decide.2 (by omega)

end Go.Proofs.YtgeahmmepfmcoaaDoor
