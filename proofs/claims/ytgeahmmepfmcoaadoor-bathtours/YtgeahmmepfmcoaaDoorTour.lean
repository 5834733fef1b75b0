/- parts that the proof of BathTours uses -/
import Derived.Test.YtgeahmmepfmcoaaDoorHome
namespace Go.Proofs.YtgeahmmepfmcoaaDoor
open Go Go.RowKit L
set_option linter.unusedVariables false
set_option linter.unusedSimpArgs false

def pkT (d : Rows2) (l : List Nat) (q : Nat) : Bool := fol [] (endO 0 l) q && decide (cst d (lastN l) q + home d.length d (endO 0 l ||| 2 ^ q) q = home d.length d (endO 0 l) (lastN l))
theorem pkT_bit {d : Rows2} {l : List Nat} {j : Nat} (h : (endO 0 l).testBit j = true) : pkT d l j = false := by rw [pkT, fol_bitn h]; rfl
theorem pkT_no {d : Rows2} {l : List Nat} {j : Nat} (h : ¬ (d.getD (lastN l) []).getD j 0 + home d.length d (endO 0 l ||| 2 ^ j) j = home d.length d (endO 0 l) (lastN l)) : pkT d l j = false := by
  have h' : ¬ cst d (lastN l) j + home d.length d (endO 0 l ||| 2 ^ j) j = home d.length d (endO 0 l) (lastN l) := h
  rw [pkT, decide_eq_false h', Bool.and_false]
theorem pkT_next {d : Rows2} {l : List Nat} {j : Nat} (h : ∀ q, q < j → pkT d l q = false) (hj : pkT d l j = false) : ∀ q, q < j + 1 → pkT d l q = false := fun q hq => by
  by_cases e : q = j
  · subst e; exact hj
  · exact h q (by omega)
theorem pkT_ex {d : Rows2} (hd : DP d) {l : List Nat} {j : Nat} (hok : okO d.length [] 0 l = true) (hne : 1 ≤ l.length) (hl : l.length < d.length) (hj : d.length ≤ j) (h : ∀ q, q < j → pkT d l q = false) : False := by
  have h9 := hd.n9
  obtain ⟨f1, f2⟩ := full_no rfl hl hok
  obtain ⟨q, hp, hq, hf, he⟩ := pickT_ex hd.costs (by omega) (by omega) f1 (okO_lt _ _ hok _ (getD_mem (d := 0) (show l.length - 1 < l.length by omega))) f2
  have := h q (by omega)
  have e : pkT d l q = true := by
    rw [pkT, hf, Bool.true_and]; exact decide_eq_true he
  rw [e] at this; simp at this
theorem tour_step {d : Rows2} {l : List Nat} {j : Nat} (hl : l.length < d.length) (hj : j < d.length) (hb : (endO 0 l).testBit j = false) (he : (d.getD (lastN l) []).getD j 0 + home d.length d (endO 0 l ||| 2 ^ j) j = home d.length d (endO 0 l) (lastN l))
    (hno : ∀ q, q < j → pkT d l q = false) (h : l ++ restT d.length d (d.length - l.length) (endO 0 l) (lastN l) = tourT d.length d) : (l ++ [j]) ++ restT d.length d (d.length - (l ++ [j]).length) (endO 0 (l ++ [j])) (lastN (l ++ [j])) = tourT d.length d := by
  have hp : pickT d.length d (endO 0 l) (lastN l) = some j := find_range hj hno (by
    rw [fol_bit hb, Bool.true_and]; exact decide_eq_true he)
  rw [← h, endO_app, lastN_app, List.length_append, List.length_singleton, show d.length - l.length = (d.length - (l.length + 1)) + 1 by omega, restT, hp, List.append_assoc, List.singleton_append]
theorem tour_start {d : Rows2} : [0] ++ restT d.length d (d.length - [0].length) (endO 0 [0]) (lastN [0]) = tourT d.length d := rfl
theorem st_swap {w0 w : World} {a r x : Ent} {Xs : List Ent} (h : St w0 (a :: r :: x :: Xs) w) : St w0 (r :: x :: Xs) w := h.sublist (List.sublist_cons_self _ _)
theorem Tour_spec (w : World) (A : Option Addr) (c : Nat) (vs : List Value) (d : Rows2) (hl : d.length ≤ 140737488351232) (hm : Mx w A vs d) (hlr : ∀ r ∈ d, r.length ≤ 140737488351232) : Calls Tryd.prog 43 #[.slice A d.length c] w fun e w' => ∃ A' c' D, e = .returned (.tuple #[.slice A' (tourR d).1.length c', .int .i64 (tourR d).2]) ∧ St w D w' ∧ Rds D A' (I (tourR d).1) := by
  refine calls (args := [.slice A d.length c]) Tryd.func43 rfl Tryd.ntmps43 (Nat.le_of_ble_eq_true rfl) (St.refl w) ?_
  refine J_seq ?_
  refine J_region ?_
  refine V_box (.n _) rfl rfl rfl (fun _ => trivial) (fun b1 => ?_)   -- 0.0
  refine V_asg (.n _) rfl rfl ?_   -- 0.1
  refine V_asg (.n _) rfl rfl ?_   -- 0.2
  refine V_sub [(0, _), (1, _), (2, _), (3, _)] ⟨rfl, rfl, rfl, rfl, trivial⟩ ?_
  refine V_nil (.inl rfl) ?_
  refine E_then ?_
  refine J_seq ?_
  refine J_seq ?_
  refine J_region ?_
  refine V_ld (.n _) Tryd.isAgg45 rfl (by repeat (first | exact List.Mem.head _ | assumption | apply List.Mem.tail | apply List.mem_append_right)) (by rfl) rfl ?_   -- 1.0
  refine V_call0 (.n _) Tryd.call86 (.cons rfl .nil) (fun w1 hw1 => dist_spec w1 A c vs d hl (hm.keep hw1) hlr) rfl trivial ?_   -- 1.1
  refine V_notB (.n _) rfl rfl ?_   -- 1.2
  refine V_sub [(0, _), (1, _), (2, _), (3, _), (13, _)] ⟨rfl, rfl, rfl, rfl, rfl, trivial⟩ ?_
  refine V_nil (.inl rfl) ?_
  refine E_then ?_
  refine J_condB rfl (fun h1 => ?_) (fun h1 => ?_)   -- C0
  · skip
    refine J_seq ?_
    refine J_region ?_
    refine V_asg (.n _) rfl rfl ?_   -- 2.0
    refine V_asg (.n _) rfl rfl ?_   -- 2.1
    refine V_sub [(0, _), (1, _), (2, _), (3, _), (13, _)] ⟨rfl, rfl, rfl, rfl, rfl, trivial⟩ ?_
    refine V_nil (.inl rfl) ?_
    refine E_then ?_
    refine J_ret ?_
    refine E_then_ret ?_
    -- return R0
    refine E_ret2 Tryd.results43 rfl rfl (fun w hw => ?_)
    have hte := tourR_n (d := d) (by simpa using ‹(!distP d) = true›)
    exact ⟨none, 0, [], by rw [hte]; rfl, hw.sub (fun x hx => by simp at hx) (by simp [keys]), by rw [hte]; exact Rds.nil⟩
  · have hd : DP d := distP_iff.1 (by simpa using h1)
    have h9 := hd.n9
    have h3 := hd.n3
    refine J_skip ?_
    refine E_then ?_
    refine J_seq ?_
    refine J_region ?_
    refine V_ld (.n _) Tryd.isAgg45 rfl (by repeat (first | exact List.Mem.head _ | assumption | apply List.Mem.tail | apply List.mem_append_right)) (by rfl) rfl ?_   -- 3.0
    refine V_len (.n _) Tryd.underlying45 rfl rfl ?_   -- 3.1
    refine V_alloc (.n _) Tryd.zeroValue3 rfl rfl (fun _ => trivial) (fun b4 => ?_)   -- 3.2
    refine V_stF (.n _) Tryd.sizeOf3 rfl rfl rfl (by repeat (first | exact SetAt.z | apply SetAt.s)) (by repeat (first | exact LSet.z | apply LSet.s)) ?_   -- 3.3
    refine V_sub [(0, _), (1, _), (2, _), (3, _), (4, _), (13, _)] ⟨rfl, rfl, rfl, rfl, rfl, rfl, trivial⟩ ?_
    refine V_nil (.inl rfl) ?_
    refine E_then ?_
    refine J_seq ?_
    refine J_region ?_
    refine V_call (post := fun v1 D => ∃ b, v1 = .agg #[.map (some b)] ∧ D = [.m b [] 0]) (.n _) Tryd.call87 .nil (fun w1 hw1 => rememberP_spec w1) rfl trivial ?_
    rintro _ D ⟨b, rfl, rfl⟩
    refine V_alloc (.n _) Tryd.zeroValue109 rfl rfl (fun _ => trivial) (fun b5 => ?_)   -- 4.1
    refine V_stN (us := [.map (some b)]) (.n _) Tryd.sizeOf109 rfl rfl rfl (by simp [Value.oneCell']) (by repeat (first | exact SetAt.z | apply SetAt.s)) rfl rfl ?_   -- 4.2
    refine V_sub [(0, _), (1, _), (2, _), (3, _), (4, _), (5, _), (13, _)] ⟨rfl, rfl, rfl, rfl, rfl, rfl, rfl, trivial⟩ ?_
    refine V_nil (.inl rfl) ?_
    refine E_then ?_
    refine J_seq ?_
    refine J_region ?_
    refine V_alloc (.n _) Tryd.zeroValue106 rfl rfl (fun _ => trivial) (fun b6 => ?_)   -- 5.0
    refine V_sub [(0, _), (1, _), (2, _), (3, _), (4, _), (5, _), (6, _), (13, _)] ⟨rfl, rfl, rfl, rfl, rfl, rfl, rfl, rfl, trivial⟩ ?_
    refine V_nil (.inl rfl) ?_
    refine E_then ?_
    refine J_seq ?_
    refine J_region ?_
    refine V_mkf (.n _) (.cons rfl (.cons rfl (.cons rfl (.cons rfl .nil)))) rfl ?_   -- 6.0
    refine V_stF (.n _) Tryd.sizeOf106 rfl rfl rfl (by repeat (first | exact SetAt.z | apply SetAt.s)) (by repeat (first | exact LSet.z | apply LSet.s)) ?_   -- 6.1
    refine V_sub [(0, _), (1, _), (2, _), (3, _), (4, _), (5, _), (6, _), (13, _)] ⟨rfl, rfl, rfl, rfl, rfl, rfl, rfl, rfl, trivial⟩ ?_
    refine V_nil (.inl rfl) ?_
    refine E_then ?_
    refine J_seq ?_
    refine J_region ?_
    refine V_lit (.n _) Tryd.underlying34 Tryd.sizeOf3 Tryd.zeroValue3 (.cons rfl rfl rfl .nil) rfl rfl rfl (fun _ => trivial) (fun b18 => ?_)   -- 7.0
    refine V_asg (.n _) rfl rfl ?_   -- 7.1
    refine V_asg (.n _) rfl rfl ?_   -- 7.2
    refine V_sub [(0, _), (1, _), (2, _), (3, _), (4, _), (5, _), (6, _), (7, _), (8, _), (13, _)] ⟨rfl, rfl, rfl, rfl, rfl, rfl, rfl, rfl, rfl, rfl, trivial⟩ ?_
    refine V_nil (.inl rfl) ?_
    refine E_then ?_
    refine J_seq ?_
    refine J_block ?_
    -- loop L0
    refine J_loop (X := List Nat × Option Addr × Nat × Ent × List MapEntry × Nat) (fun x => [(0, (.slice A d.length c)), (1, (.pointer (some ⟨b1, 0, none⟩))), (2, (.slice none 0 0)), (3, (.int .i64 (0))), (4, (.pointer (some ⟨b4, 0, none⟩))), (5, (.pointer (some ⟨b5, 0, none⟩))), (6, (.pointer (some ⟨b6, 0, none⟩))), (7, .slice x.2.1 (x.1).length x.2.2.1), (8, .int .i64 ((endO 0 x.1 : Nat) : Int))]) (fun x => .m b x.2.2.2.2.1 x.2.2.2.2.2 :: x.2.2.2.1 :: .c b6 106 [.func (.func 88) #[] #[.pointer (some ⟨b5, 0, none⟩), .pointer (some ⟨b4, 0, none⟩), .pointer (some ⟨b1, 0, none⟩), .pointer (some ⟨b6, 0, none⟩)]] :: .c b5 109 [.map (some b)] :: .c b4 3 [.int .i64 d.length] :: .c b1 45 [.slice A d.length c] :: []) (fun x => 1 ≤ (x.1).length ∧ (x.1).length ≤ d.length ∧ okO d.length [] 0 x.1 = true ∧ Own 3 1 (.slice x.2.1 (x.1).length x.2.2.1) (x.1).length (I ((x.1).map Int.ofNat)) x.2.2.2.1 ∧ Memo kP (fP d) okP x.2.2.2.2.1 ∧ x.1 ++ restT d.length d (d.length - (x.1).length) (endO 0 x.1) (lastN x.1) = tourT d.length d) (fun x => d.length - (x.1).length) ([0], some ⟨b18, 0, none⟩, 1, .c b18 3 [.int .i64 0], [], 0) (by refine ⟨?_, ?_, ?_, ?_, ?_, ?_, ?_, ?_, ?_, trivial⟩ <;> first | rfl | exact int_eq (by omega)) (fun w h => h.sel [3, 0, 1, 2, 4, 5] (by decide)) ?_ ?_
    · exact ⟨by simp, by simp; omega, (tin_start hd).ok, Own.row rfl, Memo.nil _ _ _, tour_start⟩
    · rintro ⟨l, Ao, co, X1, es1, clk1⟩ ⟨hne, hln, hok, hown, hes1, htour⟩
      dsimp only at hne hln hok hown hes1 htour ⊢
      refine J_seq ?_
      refine J_seq ?_
      refine J_region ?_
      refine V_mov (.n _) rfl rfl ?_   -- 8.0
      refine V_len (.n _) Tryd.underlying34 rfl rfl ?_   -- 8.1
      refine V_ld (.n _) Tryd.isAgg3 rfl (by repeat (first | exact List.Mem.head _ | assumption | apply List.Mem.tail | apply List.mem_append_right)) (by rfl) rfl ?_   -- 8.2
      refine V_lss (.n _) rfl rfl rfl ?_   -- 8.3
      refine V_sub [(0, _), (1, _), (2, _), (3, _), (4, _), (5, _), (6, _), (7, _), (8, _), (22, _)] ⟨rfl, rfl, rfl, rfl, rfl, rfl, rfl, rfl, rfl, rfl, trivial⟩ ?_
      refine V_nil (.inl rfl) ?_
      refine E_then ?_
      refine J_cond rfl (fun h2 => ?_) (fun h2 => ?_)   -- C1
      · skip
        refine J_skip ?_
        refine E_then ?_
        refine J_block ?_
        refine J_seq ?_
        refine J_region ?_
        refine V_mov (.n _) rfl rfl ?_   -- 9.0
        refine V_mov (.n _) rfl rfl ?_   -- 9.1
        refine V_len (.n _) Tryd.underlying34 rfl rfl ?_   -- 9.2
        refine V_sub1 (.n _) rfl rfl (wrap_ok (by omega)) rfl ?_   -- 9.3
        obtain ⟨q, hq⟩ : ∃ q, l.length = q + 1 := ⟨l.length - 1, by omega⟩
        have hlq := ofN_lastN hq
        rw [show ((l.length : Nat) : Int) - 1 = (q : Int) by omega]
        first | refine V_ix (.n _) Tryd.underlying34 Tryd.sizeOf3 rfl rfl (by omega) (by omega) rfl ?_ | refine V_ixz (.n _) Tryd.underlying34 Tryd.sizeOf3 rfl rfl (hm.rd.pl (by rw [hm.len]; omega)) (by omega) (by omega) rfl ?_ | refine V_ixz (.n _) Tryd.underlying34 Tryd.sizeOf3 rfl rfl (hrri.pl (by simp)) (by omega) (by omega) rfl ?_ | refine V_ixz (.n _) Tryd.underlying34 Tryd.sizeOf3 rfl rfl (own_pl hown) (by omega) (by omega) rfl ?_   -- 9.4
        refine V_ldo (.n _) Tryd.isAgg3 rfl (fun w1 hw1 => hown.rd (hw1.has _ (by repeat (first | exact List.Mem.head _ | assumption | apply List.Mem.tail | apply List.mem_append_right)))) (I_getN (i := q) (by rw [List.length_map]; omega)) rfl ?_   -- 9.5
        rw [hlq]
        have hla : lastN l < d.length := okO_lt _ _ hok _ (getD_mem (d := 0) (show l.length - 1 < l.length by omega))
        have hrl := (hd.row hla).1
        have hcl := (hd.row hla).2
        obtain ⟨Ai, ci, hrowi, hrri⟩ := hm.get (i := lastN l) hla
        have hll : l.length < d.length := by omega
        obtain ⟨hs1, hs2⟩ := full_no rfl hll hok
        have hs63 : endO 0 l < 2 ^ 63 := lt63 hs1 (by omega)
        have hhs := home_lim hd.costs (by omega) (by omega) hs1 hla
        refine V_asg (.n _) rfl rfl ?_   -- 9.6
        refine V_sub [(0, _), (1, _), (2, _), (3, _), (4, _), (5, _), (6, _), (7, _), (8, _), (9, _), (22, _)] ⟨rfl, rfl, rfl, rfl, rfl, rfl, rfl, rfl, rfl, rfl, rfl, trivial⟩ ?_
        refine V_nil (.inl rfl) ?_
        refine E_then ?_
        refine J_seq ?_
        refine J_region ?_
        refine V_ld (.n _) Tryd.isAgg3 rfl (by repeat (first | exact List.Mem.head _ | assumption | apply List.Mem.tail | apply List.mem_append_right)) (by rfl) rfl ?_   -- 10.0
        refine V_mov (.n _) rfl rfl ?_   -- 10.1
        refine V_sub [(0, _), (1, _), (2, _), (3, _), (4, _), (5, _), (6, _), (7, _), (8, _), (9, _), (22, _), (29, _), (30, _)] ⟨rfl, rfl, rfl, rfl, rfl, rfl, rfl, rfl, rfl, rfl, rfl, rfl, rfl, trivial⟩ ?_
        refine V_nil (.inl rfl) ?_
        refine E_then ?_
        refine J_block ?_
        -- loop L1
        refine J_loop (X := Nat × List MapEntry × Nat) (fun x => [(0, (.slice A d.length c)), (1, (.pointer (some ⟨b1, 0, none⟩))), (2, (.slice none 0 0)), (3, (.int .i64 (0))), (4, (.pointer (some ⟨b4, 0, none⟩))), (5, (.pointer (some ⟨b5, 0, none⟩))), (6, (.pointer (some ⟨b6, 0, none⟩))), (7, (.slice Ao l.length co)), (8, (.int .i64 ((endO 0 l : Nat) : Int))), (9, (.int .i64 ((lastN l : Nat) : Int))), (29, (.int .i64 (d.length : Nat))), (30, .int .i64 (x.1 : Nat))]) (fun x => .m b x.2.1 x.2.2 :: X1 :: .c b6 106 [.func (.func 88) #[] #[.pointer (some ⟨b5, 0, none⟩), .pointer (some ⟨b4, 0, none⟩), .pointer (some ⟨b1, 0, none⟩), .pointer (some ⟨b6, 0, none⟩)]] :: .c b5 109 [.map (some b)] :: .c b4 3 [.int .i64 d.length] :: .c b1 45 [.slice A d.length c] :: []) (fun x => x.1 ≤ d.length ∧ (∀ q, q < x.1 → pkT d l q = false) ∧ Memo kP (fP d) okP x.2.1) (fun x => d.length - x.1) (0, es1, clk1) (by refine ⟨?_, ?_, ?_, ?_, ?_, ?_, ?_, ?_, ?_, ?_, ?_, ?_, trivial⟩ <;> first | rfl | exact int_eq (by omega)) (fun w h => h) ?_ ?_
        · exact ⟨by omega, fun q hq => by omega, hes1⟩
        · rintro ⟨j, es2, clk2⟩ ⟨hj, hno, hes2⟩
          dsimp only at hj hno hes2 ⊢
          refine J_seq ?_
          refine J_region ?_
          refine V_lss (.n _) rfl rfl rfl ?_   -- 11.0
          refine V_sub [(0, _), (1, _), (2, _), (3, _), (4, _), (5, _), (6, _), (7, _), (8, _), (9, _), (29, _), (30, _), (31, _)] ⟨rfl, rfl, rfl, rfl, rfl, rfl, rfl, rfl, rfl, rfl, rfl, rfl, rfl, trivial⟩ ?_
          refine V_nil (.inl rfl) ?_
          refine E_then ?_
          refine J_seq ?_
          refine J_cond rfl (fun h3 => ?_) (fun h3 => ?_)   -- C2
          · skip
            refine J_skip ?_
            refine E_then ?_
            refine J_seq ?_
            refine J_block ?_
            refine J_seq ?_
            refine J_region ?_
            refine V_mov (.n _) rfl rfl ?_   -- 12.0
            refine V_asg (.n _) rfl rfl ?_   -- 12.1
            refine V_sub [(0, _), (1, _), (2, _), (3, _), (4, _), (5, _), (6, _), (7, _), (8, _), (9, _), (10, _), (29, _), (30, _), (31, _)] ⟨rfl, rfl, rfl, rfl, rfl, rfl, rfl, rfl, rfl, rfl, rfl, rfl, rfl, rfl, trivial⟩ ?_
            refine V_nil (.inl rfl) ?_
            refine E_then ?_
            refine J_seq ?_
            refine J_draw (Gs := X1 :: .c b6 106 [.func (.func 88) #[] #[.pointer (some ⟨b5, 0, none⟩), .pointer (some ⟨b4, 0, none⟩), .pointer (some ⟨b1, 0, none⟩), .pointer (some ⟨b6, 0, none⟩)]] :: .c b5 109 [.map (some b)] :: .c b4 3 [.int .i64 d.length] :: .c b1 45 [.slice A d.length c] :: []) (cl := [.p, .p, .p, .p, .p, .p, .r, .p, .p, .r, .p, .p, .r, .r, .p, .p, .p, .p, .p, .e, .p, .r, .p, .p, .e, .p, .p]) (by kernel_rfl) (fun _ _ h => h.sublist (List.sublist_cons_self _ _)) ?_
            refine V_mov (.s _ _ _) rfl rfl ?_   -- 13.0
            refine V_mov (.s _ _ _) rfl rfl ?_   -- 13.1
            refine V_shr (.s _ _ _) rfl rfl (by omega) (by simp [IntKind.bits]; omega) rfl ?_   -- 13.2
            rw [shr_nat]
            refine V_and (r := if (endO 0 l).testBit j then 1 else 0) (.s _ _ _) rfl rfl (bit_of (endO 0 l) j hs63) rfl ?_   -- 13.3
            refine V_eql (.s _ _ _) rfl rfl rfl ?_   -- 13.4
            rw [bit0]
            refine V_mov (.s _ _ _) rfl rfl ?_   -- 13.5
            refine V_splitB 38 rfl (fun h4 => ?_) (fun h4 => ?_)   -- guard 13.5
            · skip
              refine V_go (5, true) rfl ?_
              refine V_ld (.s _ _ _) Tryd.isAgg45 rfl (by repeat (first | exact List.Mem.head _ | assumption | apply List.Mem.tail | apply List.mem_append_right)) (by rfl) rfl ?_   -- 13.6
              refine V_go (5, true) rfl ?_
              refine V_mov (.s _ _ _) rfl rfl ?_   -- 13.7
              refine V_go (5, true) rfl ?_
              first | refine V_ix (.s _ _ _) Tryd.underlying45 Tryd.sizeOf34 rfl rfl (by omega) (by omega) rfl ?_ | refine V_ixz (.s _ _ _) Tryd.underlying45 Tryd.sizeOf34 rfl rfl (hm.rd.pl (by rw [hm.len]; omega)) (by omega) (by omega) rfl ?_ | refine V_ixz (.s _ _ _) Tryd.underlying45 Tryd.sizeOf34 rfl rfl (hrri.pl (by simp)) (by omega) (by omega) rfl ?_ | refine V_ixz (.s _ _ _) Tryd.underlying45 Tryd.sizeOf34 rfl rfl (own_pl hown) (by omega) (by omega) rfl ?_   -- 13.8
              refine V_go (5, true) rfl ?_
              refine V_ldz (.s _ _ _) Tryd.isAgg34 rfl hm.rd hrowi rfl ?_   -- 13.9
              refine V_go (5, true) rfl ?_
              refine V_mov (.s _ _ _) rfl rfl ?_   -- 13.10
              refine V_go (5, true) rfl ?_
              first | refine V_ix (.s _ _ _) Tryd.underlying34 Tryd.sizeOf3 rfl rfl (by omega) (by omega) rfl ?_ | refine V_ixz (.s _ _ _) Tryd.underlying34 Tryd.sizeOf3 rfl rfl (hm.rd.pl (by rw [hm.len]; omega)) (by omega) (by omega) rfl ?_ | refine V_ixz (.s _ _ _) Tryd.underlying34 Tryd.sizeOf3 rfl rfl (hrri.pl (by simp)) (by omega) (by omega) rfl ?_ | refine V_ixz (.s _ _ _) Tryd.underlying34 Tryd.sizeOf3 rfl rfl (own_pl hown) (by omega) (by omega) rfl ?_   -- 13.11
              refine V_go (5, true) rfl ?_
              refine V_ldz (.s _ _ _) Tryd.isAgg3 rfl hrri (I_getN (i := j) (by omega)) rfl ?_   -- 13.12
              have hcj := hcl j (by omega)
              refine V_go (5, true) rfl ?_
              refine V_ld (.s _ _ _) Tryd.isAgg106 rfl (by repeat (first | exact List.Mem.head _ | assumption | apply List.Mem.tail | apply List.mem_append_right)) (by rfl) rfl ?_   -- 13.13
              refine V_go (5, true) rfl ?_
              refine V_mov (.s _ _ _) rfl rfl ?_   -- 13.14
              refine V_go (5, true) rfl ?_
              refine V_mov (.s _ _ _) rfl rfl ?_   -- 13.15
              refine V_go (5, true) rfl ?_
              refine V_shl (.s _ _ _) rfl rfl (by omega) (by simp [IntKind.bits]; omega) (by rw [shl_nat]; exact wrap_nat (lt63 (Nat.pow_lt_pow_right (by decide) (show j < 10 by omega)) (Nat.le_refl _))) rfl ?_   -- 13.16
              rw [shl_nat]
              have hsj := or_lt hs1 (show j < d.length by omega)
              have hhl := home_lim hd.costs (by omega) (by omega) hsj (show j < d.length by omega)
              refine V_go (5, true) rfl ?_
              refine V_or (r := (((endO 0 l) ||| 2 ^ j : Nat) : Int)) (.s _ _ _) rfl rfl (bits_or (by omega) (lt63 (Nat.pow_lt_pow_right (by decide) (show j < 10 by omega)) (Nat.le_refl _))) rfl ?_   -- 13.17
              refine V_go (5, true) rfl ?_
              refine V_mov (.s _ _ _) rfl rfl ?_   -- 13.18
              refine V_go (5, true) rfl ?_
              refine V_callCE (post := fun v1 G' => ∃ es' clk', v1 = fP d (((endO 0 l) ||| 2 ^ j), j) ∧ Memo kP (fP d) okP es' ∧ G' = .m b es' clk' :: X1 :: .c b6 106 [.func (.func 88) #[] #[.pointer (some ⟨b5, 0, none⟩), .pointer (some ⟨b4, 0, none⟩), .pointer (some ⟨b1, 0, none⟩), .pointer (some ⟨b6, 0, none⟩)]] :: .c b5 109 [.map (some b)] :: .c b4 3 [.int .i64 d.length] :: .c b1 45 [.slice A d.length c] :: []) (.s _ _ _) Tryd.call88 rfl (.cons rfl (.cons rfl .nil)) (fun w1 hw1 => by
                have h := homefind_spec w A c vs d hd hm b5 b4 b1 b6 b (2 ^ d.length - ((endO 0 l) ||| 2 ^ j) - 1) ((endO 0 l) ||| 2 ^ j) j (by omega) (by omega) (X1 :: .c b6 106 [.func (.func 88) #[] #[.pointer (some ⟨b5, 0, none⟩), .pointer (some ⟨b4, 0, none⟩), .pointer (some ⟨b1, 0, none⟩), .pointer (some ⟨b6, 0, none⟩)]] :: .c b5 109 [.map (some b)] :: .c b4 3 [.int .i64 d.length] :: .c b1 45 [.slice A d.length c] :: []) es2 clk2 w1 ⟨(by repeat (first | exact List.Mem.head _ | assumption | apply List.Mem.tail | apply List.mem_append_right)), (by repeat (first | exact List.Mem.head _ | assumption | apply List.Mem.tail | apply List.mem_append_right)), (by repeat (first | exact List.Mem.head _ | assumption | apply List.Mem.tail | apply List.mem_append_right)), (by repeat (first | exact List.Mem.head _ | assumption | apply List.Mem.tail | apply List.mem_append_right))⟩ hes2 hw1
                exact h.mono fun e w2 ⟨es', clk', he, hm, hs⟩ => ⟨_, _, he, hs, es', clk', rfl, hm, rfl⟩) rfl (by rintro v1 G' ⟨es', clk', _, _, rfl⟩ w0 w1 h; exact h.sublist (List.sublist_cons_self _ _)) ?_
              rintro v1 G' ⟨es3, clk3, rfl, hes3, rfl⟩
              refine V_go (5, true) rfl ?_
              refine V_add (p := (d.getD (lastN l) []).getD j 0) (q := home d.length d ((endO 0 l) ||| 2 ^ j) j) (.s _ _ _) rfl rfl (wrap_ok (by omega)) rfl ?_   -- 13.20
              refine V_go (5, true) rfl ?_
              refine V_ld (.s _ _ _) Tryd.isAgg106 rfl (by repeat (first | exact List.Mem.head _ | assumption | apply List.Mem.tail | apply List.mem_append_right)) (by rfl) rfl ?_   -- 13.21
              refine V_go (5, true) rfl ?_
              refine V_mov (.s _ _ _) rfl rfl ?_   -- 13.22
              refine V_go (5, true) rfl ?_
              refine V_mov (.s _ _ _) rfl rfl ?_   -- 13.23
              refine V_go (5, true) rfl ?_
              refine V_callCE (post := fun v1 G' => ∃ es' clk', v1 = fP d ((endO 0 l), (lastN l)) ∧ Memo kP (fP d) okP es' ∧ G' = .m b es' clk' :: X1 :: .c b6 106 [.func (.func 88) #[] #[.pointer (some ⟨b5, 0, none⟩), .pointer (some ⟨b4, 0, none⟩), .pointer (some ⟨b1, 0, none⟩), .pointer (some ⟨b6, 0, none⟩)]] :: .c b5 109 [.map (some b)] :: .c b4 3 [.int .i64 d.length] :: .c b1 45 [.slice A d.length c] :: []) (.s _ _ _) Tryd.call88 rfl (.cons rfl (.cons rfl .nil)) (fun w1 hw1 => by
                have h := homefind_spec w A c vs d hd hm b5 b4 b1 b6 b (2 ^ d.length - (endO 0 l) - 1) (endO 0 l) (lastN l) (by omega) (by omega) (X1 :: .c b6 106 [.func (.func 88) #[] #[.pointer (some ⟨b5, 0, none⟩), .pointer (some ⟨b4, 0, none⟩), .pointer (some ⟨b1, 0, none⟩), .pointer (some ⟨b6, 0, none⟩)]] :: .c b5 109 [.map (some b)] :: .c b4 3 [.int .i64 d.length] :: .c b1 45 [.slice A d.length c] :: []) es3 clk3 w1 ⟨(by repeat (first | exact List.Mem.head _ | assumption | apply List.Mem.tail | apply List.mem_append_right)), (by repeat (first | exact List.Mem.head _ | assumption | apply List.Mem.tail | apply List.mem_append_right)), (by repeat (first | exact List.Mem.head _ | assumption | apply List.Mem.tail | apply List.mem_append_right)), (by repeat (first | exact List.Mem.head _ | assumption | apply List.Mem.tail | apply List.mem_append_right))⟩ hes3 hw1
                exact h.mono fun e w2 ⟨es', clk', he, hm, hs⟩ => ⟨_, _, he, hs, es', clk', rfl, hm, rfl⟩) rfl (by rintro v1 G' ⟨es', clk', _, _, rfl⟩ w0 w1 h; exact h.sublist (List.sublist_cons_self _ _)) ?_
              rintro v1 G' ⟨es4, clk4, rfl, hes4, rfl⟩
              refine V_go (5, true) rfl ?_
              refine V_eql (p := (d.getD (lastN l) []).getD j 0 + home d.length d ((endO 0 l) ||| 2 ^ j) j) (q := home d.length d (endO 0 l) (lastN l)) (.s _ _ _) rfl rfl rfl ?_   -- 13.25
              refine V_pickT (.s _ _ _) rfl rfl rfl ?_   -- 13.26
              refine V_sub [(0, _), (1, _), (2, _), (3, _), (4, _), (5, _), (6, _), (7, _), (8, _), (9, _), (10, _), (29, _), (30, _), (31, _), (59, _)] ⟨rfl, rfl, rfl, rfl, rfl, rfl, rfl, rfl, rfl, rfl, rfl, rfl, rfl, rfl, rfl, trivial⟩ ?_
              refine V_nil (.inr ⟨_, rfl⟩) ?_
              refine E_then ?_
              refine J_cond rfl (fun h5 => ?_) (fun h5 => ?_)   -- C3
              · skip
                refine J_seq ?_
                refine J_region ?_
                refine V_mov (.n _) rfl rfl ?_   -- 14.0
                refine V_mov (.n _) rfl rfl ?_   -- 14.1
                refine V_lit (.n _) Tryd.underlying34 Tryd.sizeOf3 Tryd.zeroValue3 (.cons rfl rfl rfl .nil) rfl rfl rfl (fun _ => trivial) (fun b62 => ?_)   -- 14.2
                refine V_app (z := 1) (ms := I [(j : Int)]) (X := X1) (G1 := [.c b62 3 [.int .i64 (j : Nat)], .m b es4 clk4]) (.n _) Tryd.underlying34 Tryd.underlying34 Tryd.typeInfo3 rfl rfl rfl rfl rfl rfl rfl rfl hown (fun w1 hw1 => Rd.own hw1 (t := 3) (List.Mem.head _)) (by simp) (I_one _) (by omega) rfl ?_
                intro v2 X2 hown2
                rw [show I (l.map Int.ofNat) ++ I [(j : Int)] = I ((l ++ [j]).map Int.ofNat) from ofN_snoc l j, show l.length + 1 = (l ++ [j]).length by simp] at hown2
                obtain ⟨q1, q2, rfl, _⟩ := hown2.is
                simp only [List.cons_append, List.nil_append]
                refine V_asg (.n _) rfl rfl ?_   -- 14.4
                refine V_sub [(0, _), (1, _), (2, _), (3, _), (4, _), (5, _), (6, _), (7, _), (8, _), (9, _), (10, _), (29, _), (30, _), (31, _), (59, _)] ⟨rfl, rfl, rfl, rfl, rfl, rfl, rfl, rfl, rfl, rfl, rfl, rfl, rfl, rfl, rfl, trivial⟩ ?_
                refine V_nil (.inl rfl) ?_
                refine E_then ?_
                refine J_seq ?_
                refine J_region ?_
                refine V_mov (.n _) rfl rfl ?_   -- 15.0
                refine V_mov (.n _) rfl rfl ?_   -- 15.1
                refine V_shl (.n _) rfl rfl (by omega) (by simp [IntKind.bits]; omega) (by rw [shl_nat]; exact wrap_nat (lt63 (Nat.pow_lt_pow_right (by decide) (show j < 10 by omega)) (Nat.le_refl _))) rfl ?_   -- 15.2
                rw [shl_nat]
                refine V_or (r := (((endO 0 l) ||| 2 ^ j : Nat) : Int)) (.n _) rfl rfl (bits_or (by omega) (lt63 (Nat.pow_lt_pow_right (by decide) (show j < 10 by omega)) (Nat.le_refl _))) rfl ?_   -- 15.3
                refine V_asg (.n _) rfl rfl ?_   -- 15.4
                refine V_sub [(0, _), (1, _), (2, _), (3, _), (4, _), (5, _), (6, _), (7, _), (8, _), (9, _), (10, _), (29, _), (30, _), (31, _), (59, _)] ⟨rfl, rfl, rfl, rfl, rfl, rfl, rfl, rfl, rfl, rfl, rfl, rfl, rfl, rfl, rfl, trivial⟩ ?_
                refine V_nil (.inl rfl) ?_
                refine E_then ?_
                refine J_exit ?_
                refine E_blk_exit rfl ?_
                refine E_then_exit ?_
                refine E_lp_exit ?_
                refine E_blk_hit ?_
                refine E_blk ?_
                -- again L0 0
                refine E_again (X := List Nat × Option Addr × Nat × Ent × List MapEntry × Nat) (KI := fun x => [(0, (.slice A d.length c)), (1, (.pointer (some ⟨b1, 0, none⟩))), (2, (.slice none 0 0)), (3, (.int .i64 (0))), (4, (.pointer (some ⟨b4, 0, none⟩))), (5, (.pointer (some ⟨b5, 0, none⟩))), (6, (.pointer (some ⟨b6, 0, none⟩))), (7, .slice x.2.1 (x.1).length x.2.2.1), (8, .int .i64 ((endO 0 x.1 : Nat) : Int))]) (GI := fun x => .m b x.2.2.2.2.1 x.2.2.2.2.2 :: x.2.2.2.1 :: .c b6 106 [.func (.func 88) #[] #[.pointer (some ⟨b5, 0, none⟩), .pointer (some ⟨b4, 0, none⟩), .pointer (some ⟨b1, 0, none⟩), .pointer (some ⟨b6, 0, none⟩)]] :: .c b5 109 [.map (some b)] :: .c b4 3 [.int .i64 d.length] :: .c b1 45 [.slice A d.length c] :: []) (I := fun x => 1 ≤ (x.1).length ∧ (x.1).length ≤ d.length ∧ okO d.length [] 0 x.1 = true ∧ Own 3 1 (.slice x.2.1 (x.1).length x.2.2.1) (x.1).length (I ((x.1).map Int.ofNat)) x.2.2.2.1 ∧ Memo kP (fP d) okP x.2.2.2.2.1 ∧ x.1 ++ restT d.length d (d.length - (x.1).length) (endO 0 x.1) (lastN x.1) = tourT d.length d) (μ := fun x => d.length - (x.1).length) (x := (l, Ao, co, X1, es1, clk1)) ((l ++ [j], q1, q2, X2, es4, clk4)) ?_ ?_ ?_ (fun w h => st_swap h)
                · show d.length - (l ++ [j]).length < d.length - l.length; rw [List.length_append, List.length_singleton]; omega
                · exact ⟨by simp, by simp; omega, ok_step hok (by omega) (fol_bit (notT (by assumption))), hown2, hes4, tour_step hll (by omega) (notT (by assumption)) (by assumption) hno htour⟩
                · refine ⟨?_, ?_, ?_, ?_, ?_, ?_, ?_, ?_, ?_, trivial⟩ <;> first | rfl | exact int_eq (by rw [endO_app])
              · skip
                refine J_skip ?_
                refine E_blk ?_
                refine E_then ?_
                refine J_region ?_
                refine V_add (.n _) rfl rfl (wrap_ok (by omega)) rfl ?_   -- 16.0
                refine V_mov (.n _) rfl rfl ?_   -- 16.1
                refine V_sub [(0, _), (1, _), (2, _), (3, _), (4, _), (5, _), (6, _), (7, _), (8, _), (9, _), (10, _), (29, _), (30, _), (31, _), (59, _)] ⟨rfl, rfl, rfl, rfl, rfl, rfl, rfl, rfl, rfl, rfl, rfl, rfl, rfl, rfl, rfl, trivial⟩ ?_
                refine V_nil (.inl rfl) ?_
                -- again L1 0
                refine E_again (X := Nat × List MapEntry × Nat) (KI := fun x => [(0, (.slice A d.length c)), (1, (.pointer (some ⟨b1, 0, none⟩))), (2, (.slice none 0 0)), (3, (.int .i64 (0))), (4, (.pointer (some ⟨b4, 0, none⟩))), (5, (.pointer (some ⟨b5, 0, none⟩))), (6, (.pointer (some ⟨b6, 0, none⟩))), (7, (.slice Ao l.length co)), (8, (.int .i64 ((endO 0 l : Nat) : Int))), (9, (.int .i64 ((lastN l : Nat) : Int))), (29, (.int .i64 (d.length : Nat))), (30, .int .i64 (x.1 : Nat))]) (GI := fun x => .m b x.2.1 x.2.2 :: X1 :: .c b6 106 [.func (.func 88) #[] #[.pointer (some ⟨b5, 0, none⟩), .pointer (some ⟨b4, 0, none⟩), .pointer (some ⟨b1, 0, none⟩), .pointer (some ⟨b6, 0, none⟩)]] :: .c b5 109 [.map (some b)] :: .c b4 3 [.int .i64 d.length] :: .c b1 45 [.slice A d.length c] :: []) (I := fun x => x.1 ≤ d.length ∧ (∀ q, q < x.1 → pkT d l q = false) ∧ Memo kP (fP d) okP x.2.1) (μ := fun x => d.length - x.1) (x := (j, es2, clk2)) ((j + 1, es4, clk4)) ?_ ?_ ?_ (fun w h => h)
                · show d.length - (j + 1) < d.length - j; omega
                · exact ⟨by dsimp only; omega, pkT_next hno (pkT_no (by assumption)), hes4⟩
                · refine ⟨?_, ?_, ?_, ?_, ?_, ?_, ?_, ?_, ?_, ?_, ?_, ?_, trivial⟩ <;> first | rfl | exact int_eq (by omega) | exact int_eq (by dsimp only; omega)
            · skip
              refine V_pass (.s _ _ _) (5, true) rfl rfl ?_   -- 13.6
              refine V_pass (.s _ _ _) (5, true) rfl rfl ?_   -- 13.7
              refine V_pass (.s _ _ _) (5, true) rfl rfl ?_   -- 13.8
              refine V_pass (.s _ _ _) (5, true) rfl rfl ?_   -- 13.9
              refine V_pass (.s _ _ _) (5, true) rfl rfl ?_   -- 13.10
              refine V_pass (.s _ _ _) (5, true) rfl rfl ?_   -- 13.11
              refine V_pass (.s _ _ _) (5, true) rfl rfl ?_   -- 13.12
              refine V_pass (.s _ _ _) (5, true) rfl rfl ?_   -- 13.13
              refine V_pass (.s _ _ _) (5, true) rfl rfl ?_   -- 13.14
              refine V_pass (.s _ _ _) (5, true) rfl rfl ?_   -- 13.15
              refine V_pass (.s _ _ _) (5, true) rfl rfl ?_   -- 13.16
              refine V_pass (.s _ _ _) (5, true) rfl rfl ?_   -- 13.17
              refine V_pass (.s _ _ _) (5, true) rfl rfl ?_   -- 13.18
              refine V_pass (.s _ _ _) (5, true) rfl rfl ?_   -- 13.19
              refine V_pass (.s _ _ _) (5, true) rfl rfl ?_   -- 13.20
              refine V_pass (.s _ _ _) (5, true) rfl rfl ?_   -- 13.21
              refine V_pass (.s _ _ _) (5, true) rfl rfl ?_   -- 13.22
              refine V_pass (.s _ _ _) (5, true) rfl rfl ?_   -- 13.23
              refine V_pass (.s _ _ _) (5, true) rfl rfl ?_   -- 13.24
              refine V_pass (.s _ _ _) (5, true) rfl rfl ?_   -- 13.25
              refine V_pickF (.s _ _ _) rfl rfl rfl ?_   -- 13.26
              refine V_sub [(0, _), (1, _), (2, _), (3, _), (4, _), (5, _), (6, _), (7, _), (8, _), (9, _), (10, _), (29, _), (30, _), (31, _), (59, _)] ⟨rfl, rfl, rfl, rfl, rfl, rfl, rfl, rfl, rfl, rfl, rfl, rfl, rfl, rfl, rfl, trivial⟩ ?_
              refine V_nil (.inr ⟨_, rfl⟩) ?_
              refine E_then ?_
              refine J_condF rfl ?_
              refine J_skip ?_
              refine E_blk ?_
              refine E_then ?_
              refine J_region ?_
              refine V_add (.n _) rfl rfl (wrap_ok (by omega)) rfl ?_   -- 16.0
              refine V_mov (.n _) rfl rfl ?_   -- 16.1
              refine V_sub [(0, _), (1, _), (2, _), (3, _), (4, _), (5, _), (6, _), (7, _), (8, _), (9, _), (10, _), (29, _), (30, _), (31, _), (59, _)] ⟨rfl, rfl, rfl, rfl, rfl, rfl, rfl, rfl, rfl, rfl, rfl, rfl, rfl, rfl, rfl, trivial⟩ ?_
              refine V_nil (.inl rfl) ?_
              -- again L1 1
              refine E_again (X := Nat × List MapEntry × Nat) (KI := fun x => [(0, (.slice A d.length c)), (1, (.pointer (some ⟨b1, 0, none⟩))), (2, (.slice none 0 0)), (3, (.int .i64 (0))), (4, (.pointer (some ⟨b4, 0, none⟩))), (5, (.pointer (some ⟨b5, 0, none⟩))), (6, (.pointer (some ⟨b6, 0, none⟩))), (7, (.slice Ao l.length co)), (8, (.int .i64 ((endO 0 l : Nat) : Int))), (9, (.int .i64 ((lastN l : Nat) : Int))), (29, (.int .i64 (d.length : Nat))), (30, .int .i64 (x.1 : Nat))]) (GI := fun x => .m b x.2.1 x.2.2 :: X1 :: .c b6 106 [.func (.func 88) #[] #[.pointer (some ⟨b5, 0, none⟩), .pointer (some ⟨b4, 0, none⟩), .pointer (some ⟨b1, 0, none⟩), .pointer (some ⟨b6, 0, none⟩)]] :: .c b5 109 [.map (some b)] :: .c b4 3 [.int .i64 d.length] :: .c b1 45 [.slice A d.length c] :: []) (I := fun x => x.1 ≤ d.length ∧ (∀ q, q < x.1 → pkT d l q = false) ∧ Memo kP (fP d) okP x.2.1) (μ := fun x => d.length - x.1) (x := (j, es2, clk2)) ((j + 1, es2, clk2)) ?_ ?_ ?_ (fun w h => h)
              · show d.length - (j + 1) < d.length - j; omega
              · exact ⟨by dsimp only; omega, pkT_next hno (pkT_bit (notF (by assumption))), hes2⟩
              · refine ⟨?_, ?_, ?_, ?_, ?_, ?_, ?_, ?_, ?_, ?_, ?_, ?_, trivial⟩ <;> first | rfl | exact int_eq (by omega) | exact int_eq (by dsimp only; omega)
          · exact (pkT_ex hd hok hne hll (by omega) hno).elim
      · skip
        refine J_exit ?_
        refine E_then_exit ?_
        refine E_lp_exit ?_
        refine E_blk_hit ?_
        refine E_then ?_
        refine J_seq ?_
        refine J_region ?_
        refine V_mov (.n _) rfl rfl ?_   -- 17.0
        refine V_asg (.n _) rfl rfl ?_   -- 17.1
        refine V_asg (.n _) rfl rfl ?_   -- 17.2
        refine V_sub [(0, _), (1, _), (2, _), (3, _), (4, _), (5, _), (6, _), (7, _), (8, _), (22, _)] ⟨rfl, rfl, rfl, rfl, rfl, rfl, rfl, rfl, rfl, rfl, trivial⟩ ?_
        refine V_nil (.inl rfl) ?_
        refine E_then ?_
        refine J_ret ?_
        -- return R1
        refine E_ret2 Tryd.results43 rfl rfl (fun w hw => ?_)
        have hte := tourR_y hd
        have hle : d.length - l.length = 0 := by omega
        rw [hle, restT, List.append_nil] at htour
        refine ⟨Ao, co, _, by rw [hte, ← htour, List.length_map], hw, ?_⟩
        rw [hte, ← htour]
        exact (own_rds hown).mono (by intro x hx; simp at hx; subst hx; simp)

end Go.Proofs.YtgeahmmepfmcoaaDoor
