/- parts of the proofs of the bath statements -/
import Derived.Test.YtgeahmmepfmcoaaDoorWords
import Derived.Test.YtgeahmmepfmcoaaDoorShort
import Derived.Test.YtgeahmmepfmcoaaDoorBMath4
import Derived.Test.YtgeahmmepfmcoaaDoorCore9
namespace Go.Proofs.YtgeahmmepfmcoaaDoor
open Go Go.RowKit L
set_option linter.unusedVariables false
set_option linter.unusedSimpArgs false

theorem idx_cases (c : UInt8) : ∀ (u : List UInt8), (Lib.indexByte u c = -1 ∧ behind c u = none) ∨ ∃ i : Nat, i < u.length ∧ Lib.indexByte u c = i ∧ behind c u = some (u.drop (i + 1))
  | [] => .inl ⟨rfl, rfl⟩
  | a :: u => by
    by_cases h : a = c
    · subst h
      exact .inr ⟨0, by simp, by simp [Lib.indexByte], by simp [behind]⟩
    · have hb : (a == c) = false := by simpa using h
      rcases idx_cases c u with ⟨h1, h2⟩ | ⟨i, h1, h2, h3⟩
      · exact .inl ⟨by simp [Lib.indexByte, hb, h1], by simp [behind, h, h2]⟩
      · refine .inr ⟨i + 1, by simp; omega, ?_, by simp [behind, h, h3]⟩
        have : ((i : Int) == -1) = false := by rw [beq_eq_false_iff_ne]; omega
        simp [Lib.indexByte, hb, h2, this]
theorem idx_some {c : UInt8} {u : List UInt8} (h : ¬ Lib.indexByte u c < 0) : ∃ i : Nat, i < u.length ∧ Lib.indexByte u c = i ∧ behind c u = some (u.drop (i + 1)) := by
  rcases idx_cases c u with ⟨h1, _⟩ | h1
  · omega
  · exact h1
theorem idx_none {c : UInt8} {u : List UInt8} (h : Lib.indexByte u c < 0) : behind c u = none := by
  rcases idx_cases c u with ⟨_, h1⟩ | ⟨i, _, h1, _⟩
  · exact h1
  · omega
theorem idx_min {c : UInt8} {u v : List UInt8} (h : min (Lib.indexByte u c) (Lib.indexByte v c) < 0) : behind c u = none ∨ behind c v = none := by
  rcases (show Lib.indexByte u c < 0 ∨ Lib.indexByte v c < 0 by omega) with h | h
  · exact .inl (idx_none h)
  · exact .inr (idx_none h)
theorem idx_bd (c : UInt8) (u : List UInt8) : -1 ≤ Lib.indexByte u c ∧ Lib.indexByte u c < u.length ∨ Lib.indexByte u c = -1 := by
  rcases idx_cases c u with ⟨h1, _⟩ | ⟨i, h0, h1, _⟩
  · exact .inr h1
  · exact .inl ⟨by omega, by omega⟩
theorem comStep_le {F : List UInt8 → List UInt8 → List UInt8} {u v : List UInt8} {m : Nat} (hF : ∀ a b, (F a b).length ≤ m) : ∀ (l : List UInt8) (b : List UInt8), b.length ≤ m + 1 → (l.foldl (comStep F u v) b).length ≤ m + 1
  | [], b, h => h
  | c :: l, b, h => by
    rw [List.foldl_cons]
    refine comStep_le hF l _ ?_
    unfold comStep
    split
    · split
      · rename_i u' v' _ _ _
        have := hF u' v'
        rw [List.length_cons]; omega
      · exact h
    · exact h
theorem comF_le : ∀ (f : Nat) (u v : List UInt8), (comF f u v).length ≤ f
  | 0, u, v => by simp [comF]
  | f + 1, u, v => by rw [comF]; exact comStep_le (comF_le f) letters [] (by simp)
theorem com_le (u v : List UInt8) : (com u v).length ≤ u.length := comF_le _ _ _
def comTo (u v : List UInt8) (j : Nat) : List UInt8 := (letters.take j).foldl (comStep com u v) []
theorem comTo_next {u v : List UInt8} {j : Nat} (h : j < 8) : comTo u v (j + 1) = comStep com u v (comTo u v j) (letters.getD j 0) := by
  unfold comTo
  rw [List.take_succ_eq_append_getElem (show j < letters.length from h)]
  have h' : j < letters.length := h
  have : letters[j]'h' = letters.getD j 0 := by simp [h']
  rw [this, List.foldl_append]; rfl
theorem comTo_le (u v : List UInt8) : ∀ (j : Nat), j ≤ 8 → (comTo u v j).length ≤ u.length
  | 0, _ => by simp [comTo]
  | j + 1, h => by
    rw [comTo_next (by omega)]
    have ih := comTo_le u v j (by omega)
    unfold comStep
    split
    · rename_i u' v' h1 h2
      split
      · have h3 := com_le u' v'
        have h4 := behind_len h1
        rw [List.length_cons]; omega
      · exact ih
    · exact ih
def kS (k : List UInt8 × List UInt8) : Value := .agg #[.string ⟨k.1.toArray⟩, .string ⟨k.2.toArray⟩]
def fS (k : List UInt8 × List UInt8) : Value := .string ⟨(com k.1 k.2).toArray⟩
def okS (k : List UInt8 × List UInt8) : Prop := k.1.length ≤ 8 ∧ k.2.length ≤ 8
theorem keyLits_str {P : Program} {t : TypeId} (hu : P.underlying t = some .string) {p : List UInt8} (h : p.length ≤ 8) (d : Nat) : P.keyLits (d + 1) t [.string ⟨p.toArray⟩] = some [.string p] := by
  simp only [Program.keyLits, hu]
  have hsz : (ByteArray.mk p.toArray).size ≤ maxLen := by
    show p.length ≤ maxLen
    have : 8 ≤ maxLen := by decide
    omega
  rw [if_pos hsz]
theorem kS_ok : KeyOk Tryd.prog 85 kS okS := KeyOk.deep (Go.deep_law_laid (by kernel_rfl) (m := 3) (Nat.le_of_ble_eq_true rfl) (of_decide_eq_true (by kernel_rfl)) (by kernel_rfl) (by kernel_rfl))
  (fun a b h => by
    obtain ⟨a1, a2⟩ := a
    obtain ⟨b1, b2⟩ := b
    simp [kS] at h
    rw [h.1, h.2])
  (fun k hk => keyOf_two Tryd.underlying85 (by kernel_rfl) ⟨_, rfl⟩ (by kernel_rfl) (by decide) (by decide) rfl rfl (by kernel_rfl) (by kernel_rfl) (keyLits_str Tryd.underlying9 hk.1) (keyLits_str Tryd.underlying9 hk.2))
/-- what the search's closures hold -/
structure SE (bm bf b : Nat) (R : List Ent) : Prop where
  m : Ent.c bm 82 [.map (some b)] ∈ R
  f : Ent.c bf 78 [.func (.func 57) #[] #[.pointer (some ⟨bm, 0, none⟩), .pointer (some ⟨bf, 0, none⟩)]] ∈ R
theorem SE.mono {bm bf b : Nat} {R R' : List Ent} (h : SE bm bf b R) (hs : ∀ x ∈ R, x ∈ R') : SE bm bf b R' := ⟨hs _ h.m, hs _ h.f⟩


theorem idxEntry (u : List UInt8) (c : UInt8) (w : World) : (callFunc 120 [.string ⟨u.toArray⟩, .int .u8 c.toNat].toArray).run Tryd.prog w = .ok (.value (.int .i64 (Lib.indexByte u c))) w := by
  rw [run_callFunc_extern Tryd.func120 (by kernel_rfl) (by kernel_rfl) (by kernel_rfl) (e := Extern.BytealgIndexByte.indexByte) (by kernel_rfl)]
  have h := Lib.run_indexByteString (P := Tryd.prog) ⟨u.toArray⟩ c.toNat w
  have e : ((c.toNat : Int).toNat).toUInt8 = c := by
    rw [Int.toNat_natCast]; exact UInt8.toNat_inj.1 (by simp)
  rw [e] at h
  rw [h]; rfl

theorem idx1_spec (w : World) (u : List UInt8) (c : UInt8) : Calls Tryd.prog 105 #[.string ⟨u.toArray⟩, .int .u8 c.toNat] w fun e w' => e = .returned (.int .i64 (Lib.indexByte u c)) ∧ St w [] w' := by
  refine calls (args := [.string ⟨u.toArray⟩, .int .u8 c.toNat]) Tryd.func105 rfl Tryd.ntmps105 (Nat.le_of_ble_eq_true rfl) (St.refl w) ?_
  refine J_seq ?_
  refine J_region ?_
  refine V_asg (.n _) rfl rfl ?_   -- 0.0
  refine V_sub [(0, _), (1, _), (4, _)] ⟨rfl, rfl, rfl, trivial⟩ ?_
  refine V_nil (.inl rfl) ?_
  refine E_then ?_
  refine J_seq ?_
  refine J_region ?_
  refine V_mov (.n _) rfl rfl ?_   -- 1.0
  refine V_mov (.n _) rfl rfl ?_   -- 1.1
  refine V_entry (.n _) (idxEntry u c) (.cons rfl (.cons rfl .nil)) rfl ?_   -- 1.2
  refine V_asg (.n _) rfl rfl ?_   -- 1.3
  refine V_sub [(0, _), (1, _), (4, _)] ⟨rfl, rfl, rfl, trivial⟩ ?_
  refine V_nil (.inl rfl) ?_
  refine E_then ?_
  refine J_ret ?_
  -- return R0
  refine E_ret1 Tryd.results105 rfl (fun w hw => ?_)
  exact ⟨rfl, hw⟩

theorem idx_spec (w : World) (u : List UInt8) (c : UInt8) : Calls Tryd.prog 60 #[.string ⟨u.toArray⟩, .int .u8 c.toNat] w fun e w' => e = .returned (.int .i64 (Lib.indexByte u c)) ∧ St w [] w' := by
  refine calls (args := [.string ⟨u.toArray⟩, .int .u8 c.toNat]) Tryd.func60 rfl Tryd.ntmps60 (Nat.le_of_ble_eq_true rfl) (St.refl w) ?_
  refine J_seq ?_
  refine J_region ?_
  refine V_asg (.n _) rfl rfl ?_   -- 0.0
  refine V_sub [(0, _), (1, _), (4, _)] ⟨rfl, rfl, rfl, trivial⟩ ?_
  refine V_nil (.inl rfl) ?_
  refine E_then ?_
  refine J_seq ?_
  refine J_region ?_
  refine V_mov (.n _) rfl rfl ?_   -- 1.0
  refine V_mov (.n _) rfl rfl ?_   -- 1.1
  refine V_call0 (.n _) Tryd.call105 (.cons rfl (.cons rfl .nil)) (fun w1 hw1 => idx1_spec w1 u c) rfl trivial ?_   -- 1.2
  refine V_asg (.n _) rfl rfl ?_   -- 1.3
  refine V_sub [(0, _), (1, _), (4, _)] ⟨rfl, rfl, rfl, trivial⟩ ?_
  refine V_nil (.inl rfl) ?_
  refine E_then ?_
  refine J_ret ?_
  -- return R0
  refine E_ret1 Tryd.results60 rfl (fun w hw => ?_)
  exact ⟨rfl, hw⟩


theorem comStep_none {F : List UInt8 → List UInt8 → List UInt8} {u v best : List UInt8} {c : UInt8} (h : behind c u = none ∨ behind c v = none) : comStep F u v best c = best := by
  unfold comStep
  rcases h with h | h
  · rw [h]
  · rw [h]; cases behind c u <;> rfl
theorem comStep_some {F : List UInt8 → List UInt8 → List UInt8} {u v best u' v' : List UInt8} {c : UInt8} (h : behind c u = some u') (h2 : behind c v = some v') : comStep F u v best c = if best.length < (c :: F u' v').length then c :: F u' v' else best := by
  unfold comStep
  rw [h, h2]

theorem rememberS_spec (w : World) : Calls Tryd.prog 56 #[] w fun e w' => ∃ v D, e = .returned v ∧ St w D w' ∧ ∃ b, v = .agg #[.map (some b)] ∧ D = [.m b [] 0] := by
  refine calls (args := []) Tryd.func56 rfl Tryd.ntmps56 (Nat.le_of_ble_eq_true rfl) (St.refl w) ?_
  refine J_seq ?_
  refine J_region ?_
  refine V_alloc (.n _) Tryd.zeroValue82 rfl rfl (fun _ => trivial) (fun b0 => ?_)   -- 0.0
  refine V_sub [(0, _)] ⟨rfl, trivial⟩ ?_
  refine V_nil (.inl rfl) ?_
  refine E_then ?_
  refine J_seq ?_
  refine J_region ?_
  refine V_mkm (.n _) rfl (fun _ => trivial) (fun b1 => ?_)   -- 1.0
  refine V_build (zs := [.map none]) (pl := [(0, 1)]) (.n _) (Pls.struct Tryd.underlying82 Tryd.zeroValue82 rfl rfl (by intro i f x hf hx; match i, hf, hx with | 0, hf, hx => cases hf; cases hx; exact ⟨rfl, Tryd.sizeOf80⟩)) (.cons rfl rfl rfl rfl rfl (.cons .z .nil) .nil) rfl ?_   -- 1.1
  refine V_stN (us := [.map (some b1)]) (.n _) Tryd.sizeOf82 rfl rfl rfl (by simp [Value.oneCell']) (by repeat (first | exact SetAt.z | apply SetAt.s)) rfl rfl ?_   -- 1.2
  refine V_sub [(0, _)] ⟨rfl, trivial⟩ ?_
  refine V_nil (.inl rfl) ?_
  refine E_then ?_
  refine J_ret ?_
  -- return R0
  refine E_rets (rs := [.cell 0 82]) Tryd.results56 (.c rfl Tryd.isAgg82 Tryd.sizeOf82 (by repeat (first | exact List.Mem.head _ | assumption | apply List.Mem.tail)) rfl .nil) rfl (fun w hw => ?_)
  exact ⟨_, _, rfl, hw.sublist (by simp), b1, rfl, rfl⟩

theorem comof_spec (w0 : World) (k : List UInt8 × List UInt8) (b : Nat) (cap : Array Value) (R : List Ent) (hok : (okS) k)
    (hfind : ∀ (R' : List Ent) (es : List MapEntry) (clk : Nat) (w : World), (∀ x ∈ R, x ∈ R') → Memo (kS) (fS) (okS) es → St w0 (.m b es clk :: R') w →
      Calls Tryd.prog 59 cap w fun e w' => ∃ es' clk', e = .returned ((fS) k) ∧ Memo (kS) (fS) (okS) es' ∧ St w0 (.m b es' clk' :: R') w')
    (es : List MapEntry) (clk : Nat) (w : World) (hes : Memo (kS) (fS) (okS) es) (hst : St w0 (.m b es clk :: R) w) :
    Calls Tryd.prog 58 #[.agg #[.map (some b)], (kS) k, .func (.func 59) #[] cap] w fun e w' => ∃ es' clk', e = .returned ((fS) k) ∧ Memo (kS) (fS) (okS) es' ∧ St w0 (.m b es' clk' :: R) w' := by
  refine calls (args := [.agg #[.map (some b)], (kS) k, .func (.func 59) #[] cap]) Tryd.func58 rfl Tryd.ntmps58 (Nat.le_of_ble_eq_true rfl) hst ?_
  refine J_seq ?_
  refine J_region ?_
  refine V_box (.n _) rfl rfl rfl (fun _ => trivial) (fun b3 => ?_)   -- 0.0
  refine V_box (.n _) rfl rfl rfl (fun _ => trivial) (fun b4 => ?_)   -- 0.1
  refine V_asg (.n _) rfl rfl ?_   -- 0.2
  refine V_sub [(0, _), (1, _), (2, _), (3, _), (4, _), (6, _)] ⟨rfl, rfl, rfl, rfl, rfl, rfl, trivial⟩ ?_
  refine V_nil (.inl rfl) ?_
  refine E_then ?_
  refine J_seq ?_
  refine J_seq ?_
  refine J_region ?_
  first | refine V_fa0 (.n _) fo82_0 rfl rfl ?_ | refine V_faz (.n _) fo82_0 rfl rfl ?_ | refine V_fa (.n _) fo82_0 rfl rfl ?_   -- 1.0
  refine V_ld (.n _) Tryd.isAgg80 rfl (by repeat (first | exact List.Mem.head _ | assumption | apply List.Mem.tail)) (by rfl) rfl ?_   -- 1.1
  refine V_ldN (vs := [.string ⟨k.1.toArray⟩, .string ⟨k.2.toArray⟩]) (.n _) Tryd.isAgg85 Tryd.sizeOf85 rfl (by repeat (first | exact List.Mem.head _ | assumption | apply List.Mem.tail)) rfl rfl rfl ?_   -- 1.2
  refine V_lookM (kv := kS) (fv := fS) (ok := okS) (k := k) (.n _) Tryd.underlying80 kS_ok hok Tryd.zeroValue9 rfl rfl (by repeat (first | exact List.Mem.head _ | assumption | apply List.Mem.tail)) hes rfl ?_ ?_
  · skip
    refine V_mov (.n _) rfl rfl ?_   -- 1.4
    refine V_ext (.n _) rfl rfl rfl ?_   -- 1.5
    refine V_ext (.n _) rfl rfl rfl ?_   -- 1.6
    refine V_asg (.n _) rfl rfl ?_   -- 1.7
    refine V_asg (.n _) rfl rfl ?_   -- 1.8
    refine V_sub [(0, _), (1, _), (2, _), (3, _), (4, _), (6, _), (7, _), (8, _)] ⟨rfl, rfl, rfl, rfl, rfl, rfl, rfl, rfl, trivial⟩ ?_
    refine V_nil (.inl rfl) ?_
    refine E_then ?_
    refine J_seq ?_
    refine J_region ?_
    refine V_mov (.n _) rfl rfl ?_   -- 2.0
    refine V_sub [(0, _), (1, _), (2, _), (3, _), (4, _), (6, _), (7, _), (8, _), (17, _)] ⟨rfl, rfl, rfl, rfl, rfl, rfl, rfl, rfl, rfl, trivial⟩ ?_
    refine V_nil (.inl rfl) ?_
    refine E_then ?_
    refine J_condT rfl ?_
    refine J_seq ?_
    refine J_region ?_
    refine V_mov (.n _) rfl rfl ?_   -- 3.0
    refine V_asg (.n _) rfl rfl ?_   -- 3.1
    refine V_sub [(0, _), (1, _), (2, _), (3, _), (4, _), (6, _), (7, _), (8, _), (17, _)] ⟨rfl, rfl, rfl, rfl, rfl, rfl, rfl, rfl, rfl, trivial⟩ ?_
    refine V_nil (.inl rfl) ?_
    refine E_then ?_
    refine J_ret ?_
    refine E_then_ret ?_
    -- return R0
    refine E_ret1 Tryd.results58 rfl (fun w hw => ?_)
    exact ⟨es, clk, rfl, hes, hw.sublist (by first | exact (List.Sublist.refl _).cons _ | exact ((List.Sublist.refl _).cons _).cons _ | exact ((List.Sublist.refl _).cons _).cons_cons _ | exact (((List.Sublist.refl _).cons _).cons _).cons_cons _)⟩
  · skip
    refine V_mov (.n _) rfl rfl ?_   -- 1.4
    refine V_ext (.n _) rfl rfl rfl ?_   -- 1.5
    refine V_ext (.n _) rfl rfl rfl ?_   -- 1.6
    refine V_asg (.n _) rfl rfl ?_   -- 1.7
    refine V_asg (.n _) rfl rfl ?_   -- 1.8
    refine V_sub [(0, _), (1, _), (2, _), (3, _), (4, _), (6, _), (7, _), (8, _)] ⟨rfl, rfl, rfl, rfl, rfl, rfl, rfl, rfl, trivial⟩ ?_
    refine V_nil (.inl rfl) ?_
    refine E_then ?_
    refine J_seq ?_
    refine J_region ?_
    refine V_mov (.n _) rfl rfl ?_   -- 2.0
    refine V_sub [(0, _), (1, _), (2, _), (3, _), (4, _), (6, _), (7, _), (8, _), (17, _)] ⟨rfl, rfl, rfl, rfl, rfl, rfl, rfl, rfl, rfl, trivial⟩ ?_
    refine V_nil (.inl rfl) ?_
    refine E_then ?_
    refine J_condF rfl ?_
    refine J_skip ?_
    refine E_then ?_
    refine J_seq ?_
    refine J_region ?_
    refine V_mov (.n _) rfl rfl ?_   -- 4.0
    refine V_callC (post := fun v G' => ∃ es' clk', v = (fS) k ∧ Memo (kS) (fS) (okS) es' ∧ G' = .m b es' clk' :: .c b4 85 ([.string ⟨k.1.toArray⟩, .string ⟨k.2.toArray⟩]) :: .c b3 82 [.map (some b)] :: R) (.n _) Tryd.call59 rfl .nil (fun w1 hw1 => by
      have h := hfind (.c b4 85 ([.string ⟨k.1.toArray⟩, .string ⟨k.2.toArray⟩]) :: .c b3 82 [.map (some b)] :: R) es clk w1 (fun x hx => List.mem_cons_of_mem _ (List.mem_cons_of_mem _ hx)) hes (hw1.perm ((List.perm_middle (l₁ := [_, _])).symm))
      simp only [List.nil_append, Array.empty_append, List.append_nil, Array.append_empty] at h ⊢
      exact h.mono fun e w2 ⟨es', clk', he, hm, hs⟩ => ⟨_, _, he, hs, es', clk', rfl, hm, rfl⟩) rfl ?_
    rintro v G' ⟨es', clk', rfl, hes', rfl⟩
    refine V_asg (.n _) rfl rfl ?_   -- 4.2
    refine V_sub [(0, _), (1, _), (2, _), (3, _), (4, _), (6, _), (7, _), (8, _), (9, _), (17, _)] ⟨rfl, rfl, rfl, rfl, rfl, rfl, rfl, rfl, rfl, rfl, trivial⟩ ?_
    refine V_nil (.inl rfl) ?_
    refine E_then ?_
    refine J_seq ?_
    refine J_region ?_
    first | refine V_fa0 (.n _) fo82_0 rfl rfl ?_ | refine V_faz (.n _) fo82_0 rfl rfl ?_ | refine V_fa (.n _) fo82_0 rfl rfl ?_   -- 5.0
    refine V_ld (.n _) Tryd.isAgg80 rfl (by repeat (first | exact List.Mem.head _ | assumption | apply List.Mem.tail)) (by rfl) rfl ?_   -- 5.1
    refine V_ldN (vs := [.string ⟨k.1.toArray⟩, .string ⟨k.2.toArray⟩]) (.n _) Tryd.isAgg85 Tryd.sizeOf85 rfl (by repeat (first | exact List.Mem.head _ | assumption | apply List.Mem.tail)) rfl rfl rfl ?_   -- 5.2
    refine V_mov (.n _) rfl rfl ?_   -- 5.3
    refine V_setM (kv := kS) (fv := fS) (ok := okS) (k := k) (G1 := []) (.n _) Tryd.underlying80 kS_ok rfl rfl rfl rfl hes' hok (fun es2 clk2 hes2 => ?_)   -- 5.4
    refine V_sub [(0, _), (1, _), (2, _), (3, _), (4, _), (6, _), (7, _), (8, _), (9, _), (17, _)] ⟨rfl, rfl, rfl, rfl, rfl, rfl, rfl, rfl, rfl, rfl, trivial⟩ ?_
    refine V_nil (.inl rfl) ?_
    refine E_then ?_
    refine J_seq ?_
    refine J_region ?_
    refine V_mov (.n _) rfl rfl ?_   -- 6.0
    refine V_asg (.n _) rfl rfl ?_   -- 6.1
    refine V_sub [(0, _), (1, _), (2, _), (3, _), (4, _), (6, _), (7, _), (8, _), (9, _), (17, _)] ⟨rfl, rfl, rfl, rfl, rfl, rfl, rfl, rfl, rfl, rfl, trivial⟩ ?_
    refine V_nil (.inl rfl) ?_
    refine E_then ?_
    refine J_ret ?_
    -- return R1
    refine E_ret1 Tryd.results58 rfl (fun w hw => ?_)
    exact ⟨es2, clk2, rfl, hes2, hw.sublist (by first | exact (List.Sublist.refl _).cons _ | exact ((List.Sublist.refl _).cons _).cons _ | exact ((List.Sublist.refl _).cons _).cons_cons _ | exact (((List.Sublist.refl _).cons _).cons _).cons_cons _)⟩

theorem combody_spec (w0 : World) (bm bf b b4 b5 : Nat) (u v : List UInt8) (hu : u.length ≤ 8) (hv : v.length ≤ 8) (R : List Ent) (hE : SE bm bf b R) (h4 : Ent.c b4 9 [.string ⟨u.toArray⟩] ∈ R) (h5 : Ent.c b5 9 [.string ⟨v.toArray⟩] ∈ R)
    (ih : ∀ (u' v' : List UInt8), u'.length < u.length → v'.length ≤ 8 → ∀ (R' : List Ent) (es : List MapEntry) (clk : Nat) (w : World), (∀ x ∈ R, x ∈ R') → Memo kS fS okS es → St w0 (.m b es clk :: R') w →
      Calls Tryd.prog 57 #[.string ⟨u'.toArray⟩, .string ⟨v'.toArray⟩, .pointer (some ⟨bm, 0, none⟩), .pointer (some ⟨bf, 0, none⟩)] w fun e w' => ∃ es' clk', e = .returned (fS (u', v')) ∧ Memo kS fS okS es' ∧ St w0 (.m b es' clk' :: R') w')
    (es : List MapEntry) (clk : Nat) (w : World) (hes : Memo kS fS okS es) (hst : St w0 (.m b es clk :: R) w) :
    Calls Tryd.prog 59 #[.pointer (some ⟨b4, 0, none⟩), .pointer (some ⟨b5, 0, none⟩), .pointer (some ⟨bf, 0, none⟩)] w fun e w' => ∃ es' clk', e = .returned (fS (u, v)) ∧ Memo kS fS okS es' ∧ St w0 (.m b es' clk' :: R) w' := by
  obtain ⟨hEm, hEf⟩ := hE
  refine calls (args := [.pointer (some ⟨b4, 0, none⟩), .pointer (some ⟨b5, 0, none⟩), .pointer (some ⟨bf, 0, none⟩)]) Tryd.func59 rfl Tryd.ntmps59 (Nat.le_of_ble_eq_true rfl) hst ?_
  refine J_seq ?_
  refine J_region ?_
  refine V_asg (.n _) rfl rfl ?_   -- 0.0
  refine V_sub [(0, _), (1, _), (2, _), (3, _)] ⟨rfl, rfl, rfl, rfl, trivial⟩ ?_
  refine V_nil (.inl rfl) ?_
  refine E_then ?_
  refine J_seq ?_
  refine J_region ?_
  refine V_asg (.n _) rfl rfl ?_   -- 1.0
  refine V_sub [(0, _), (1, _), (2, _), (3, _), (4, _)] ⟨rfl, rfl, rfl, rfl, rfl, trivial⟩ ?_
  refine V_nil (.inl rfl) ?_
  refine E_then ?_
  refine J_seq ?_
  refine J_seq ?_
  refine J_region ?_
  refine V_lit (.n _) Tryd.underlying76 Tryd.sizeOf5 Tryd.zeroValue5 (.cons rfl rfl rfl (.cons rfl rfl rfl (.cons rfl rfl rfl (.cons rfl rfl rfl (.cons rfl rfl rfl (.cons rfl rfl rfl (.cons rfl rfl rfl (.cons rfl rfl rfl .nil)))))))) rfl rfl rfl (fun _ => trivial) (fun b10 => ?_)   -- 2.0
  refine V_mark (.n _) Tryd.underlying76 Tryd.underlying5 rfl (by repeat (first | exact SetAt.z | apply SetAt.s)) rfl ?_   -- 2.1
  refine V_len (.n _) Tryd.underlying76 rfl rfl ?_   -- 2.2
  refine V_mov (.n _) rfl rfl ?_   -- 2.3
  refine V_sub [(0, _), (1, _), (2, _), (3, _), (4, _), (11, _), (12, _), (13, _)] ⟨rfl, rfl, rfl, rfl, rfl, rfl, rfl, rfl, trivial⟩ ?_
  refine V_nil (.inl rfl) ?_
  refine E_then ?_
  refine J_block ?_
  -- loop L0
  refine J_loop (X := Nat × List MapEntry × Nat) (fun x => [(0, (.pointer (some ⟨b4, 0, none⟩))), (1, (.pointer (some ⟨b5, 0, none⟩))), (2, (.pointer (some ⟨bf, 0, none⟩))), (3, (.string ⟨#[]⟩)), (4, .string ⟨(comTo u v x.1).toArray⟩), (11, (.slice (some ⟨b10, 0, none⟩) 8 8)), (12, .int .i64 8), (13, .int .i64 (x.1 : Nat))]) (fun x => .f b10 5 (By letters) (8, 9) :: .m b x.2.1 x.2.2 :: R) (fun x => x.1 ≤ 8 ∧ Memo kS fS okS x.2.1) (fun x => 8 - x.1) (0, es, clk) (by refine ⟨?_, ?_, ?_, ?_, ?_, ?_, ?_, ?_, trivial⟩ <;> first | rfl | exact int_eq (by omega)) (fun w h => h) ?_ ?_
  · exact ⟨by omega, hes⟩
  · rintro ⟨j, es1, clk1⟩ ⟨hj, hes1⟩
    dsimp only at hj hes1 ⊢
    refine J_seq ?_
    refine J_region ?_
    refine V_lss (.n _) rfl rfl rfl ?_   -- 3.0
    refine V_sub [(0, _), (1, _), (2, _), (3, _), (4, _), (11, _), (12, _), (13, _), (14, _)] ⟨rfl, rfl, rfl, rfl, rfl, rfl, rfl, rfl, rfl, trivial⟩ ?_
    refine V_nil (.inl rfl) ?_
    refine E_then ?_
    refine J_seq ?_
    refine J_cond rfl (fun h1 => ?_) (fun h1 => ?_)   -- C0
    · skip
      refine J_skip ?_
      refine E_then ?_
      refine J_seq ?_
      refine J_block ?_
      refine J_seq ?_
      refine J_region ?_
      refine V_ix (.n _) Tryd.underlying76 Tryd.sizeOf5 rfl rfl (by omega) (by omega) rfl ?_   -- 4.0
      refine V_ldf (.n _) Tryd.isAgg5 rfl (by repeat (first | exact List.Mem.head _ | assumption | apply List.Mem.tail)) (By_getN (xs := letters) (by show j < 8; omega)) rfl ?_   -- 4.1
      refine V_asg (.n _) rfl rfl ?_   -- 4.2
      refine V_sub [(0, _), (1, _), (2, _), (3, _), (4, _), (6, _), (11, _), (12, _), (13, _), (14, _)] ⟨rfl, rfl, rfl, rfl, rfl, rfl, rfl, rfl, rfl, rfl, trivial⟩ ?_
      refine V_nil (.inl rfl) ?_
      refine E_then ?_
      refine J_seq ?_
      refine J_draw (Gs := _) (cl := [.r, .p, (.u fun v1 D => v1 = .int .i64 (Lib.indexByte u (letters.getD j 0)) ∧ D = []), .r, .p, (.u fun v1 D => v1 = .int .i64 (Lib.indexByte v (letters.getD j 0)) ∧ D = []), .p, .p]) (by kernel_rfl) (fun _ _ h => h) ?_
      refine V_ld (.s _ _ _) Tryd.isAgg9 rfl (by repeat (first | exact List.Mem.head _ | assumption | apply List.Mem.tail)) (by rfl) rfl ?_   -- 5.0
      refine V_mov (.s _ _ _) rfl rfl ?_   -- 5.1
      refine V_callU (.s _ _ _) Tryd.call60 (.cons rfl (.cons rfl .nil)) (fun w1 hw1 => (idx_spec w1 u (letters.getD j 0)).mono fun e w2 ⟨he, hD⟩ => ⟨_, [], he, hD, rfl, rfl⟩) rfl (fun _ _ h => h.sublist (by simp)) ?_
      rintro _ _ ⟨rfl, rfl⟩
      refine V_ld (.s _ _ _) Tryd.isAgg9 rfl (by repeat (first | exact List.Mem.head _ | assumption | apply List.Mem.tail)) (by rfl) rfl ?_   -- 5.3
      refine V_mov (.s _ _ _) rfl rfl ?_   -- 5.4
      refine V_callU (.s _ _ _) Tryd.call60 (.cons rfl (.cons rfl .nil)) (fun w1 hw1 => (idx_spec w1 v (letters.getD j 0)).mono fun e w2 ⟨he, hD⟩ => ⟨_, [], he, hD, rfl, rfl⟩) rfl (fun _ _ h => h.sublist (by simp)) ?_
      rintro _ _ ⟨rfl, rfl⟩
      have hnx := comTo_next (u := u) (v := v) (show j < 8 by omega)
      have hen := enc_letter (show j < 8 by omega)
      have hle := comTo_le u v j (by omega)
      generalize hcc : letters.getD j 0 = cc at *
      refine V_asg (.s _ _ _) rfl rfl ?_   -- 5.6
      refine V_asg (.s _ _ _) rfl rfl ?_   -- 5.7
      refine V_sub [(0, _), (1, _), (2, _), (3, _), (4, _), (6, _), (7, _), (8, _), (11, _), (12, _), (13, _), (14, _)] ⟨rfl, rfl, rfl, rfl, rfl, rfl, rfl, rfl, rfl, rfl, rfl, rfl, trivial⟩ ?_
      refine V_nil (.inr ⟨_, rfl⟩) ?_
      refine E_then ?_
      refine J_seq ?_
      refine J_seq ?_
      refine J_region ?_
      refine V_mov (.n _) rfl rfl ?_   -- 6.0
      refine V_mov (.n _) rfl rfl ?_   -- 6.1
      refine V_min (.n _) rfl rfl rfl ?_   -- 6.2
      refine V_lss (.n _) rfl rfl rfl ?_   -- 6.3
      refine V_sub [(0, _), (1, _), (2, _), (3, _), (4, _), (6, _), (7, _), (8, _), (11, _), (12, _), (13, _), (14, _), (26, _)] ⟨rfl, rfl, rfl, rfl, rfl, rfl, rfl, rfl, rfl, rfl, rfl, rfl, rfl, trivial⟩ ?_
      refine V_nil (.inl rfl) ?_
      refine E_then ?_
      refine J_cond rfl (fun h2 => ?_) (fun h2 => ?_)   -- C1
      · skip
        refine J_exit ?_
        refine E_then_exit ?_
        refine E_blk_hit ?_
        refine E_then ?_
        refine J_region ?_
        refine V_add (.n _) rfl rfl (wrap_ok (by omega)) rfl ?_   -- 10.0
        refine V_mov (.n _) rfl rfl ?_   -- 10.1
        refine V_sub [(0, _), (1, _), (2, _), (3, _), (4, _), (6, _), (7, _), (8, _), (11, _), (12, _), (13, _), (14, _), (26, _)] ⟨rfl, rfl, rfl, rfl, rfl, rfl, rfl, rfl, rfl, rfl, rfl, rfl, rfl, trivial⟩ ?_
        refine V_nil (.inl rfl) ?_
        -- again L0 0
        have hnx2 := hnx.trans (comStep_none (c := cc) (idx_min (by assumption)))
        refine E_again (X := Nat × List MapEntry × Nat) (KI := fun x => [(0, (.pointer (some ⟨b4, 0, none⟩))), (1, (.pointer (some ⟨b5, 0, none⟩))), (2, (.pointer (some ⟨bf, 0, none⟩))), (3, (.string ⟨#[]⟩)), (4, .string ⟨(comTo u v x.1).toArray⟩), (11, (.slice (some ⟨b10, 0, none⟩) 8 8)), (12, .int .i64 8), (13, .int .i64 (x.1 : Nat))]) (GI := fun x => .f b10 5 (By letters) (8, 9) :: .m b x.2.1 x.2.2 :: R) (I := fun x => x.1 ≤ 8 ∧ Memo kS fS okS x.2.1) (μ := fun x => 8 - x.1) (x := (j, es1, clk1)) ((j + 1, es1, clk1)) ?_ ?_ ?_ (fun w h => h)
        · show 8 - (j + 1) < 8 - j; omega
        · exact ⟨by dsimp only; omega, hes1⟩
        · refine ⟨rfl, rfl, rfl, rfl, ?_, rfl, rfl, ?_, trivial⟩
          · dsimp only; rw [hnx2]; rfl
          · exact int_eq (by dsimp only; omega)
      · obtain ⟨i, hi, ei, hbi⟩ := idx_some (c := cc) (u := u) (by omega)
        obtain ⟨k, hk, ek, hbk⟩ := idx_some (c := cc) (u := v) (by omega)
        rw [ei, ek]
        refine J_skip ?_
        refine E_then ?_
        refine J_seq ?_
        refine J_draw (Gs := _) (cl := [.p, .p, .p, .r, .r, .p, .p, .p, .r, .p, .p, .p, .w, .p, .p]) (by kernel_rfl) (fun _ _ h => h) ?_
        refine V_mov (.s _ _ _) rfl rfl ?_   -- 7.0
        refine V_cvi (.s _ _ _) Tryd.underlying5 Tryd.underlying21 rfl (wrap32 cc) rfl ?_   -- 7.1
        refine V_cvr (.s _ _ _) Tryd.underlying21 Tryd.underlying9 rfl hen rfl ?_   -- 7.2
        refine V_ld (.s _ _ _) Tryd.isAgg78 rfl (by repeat (first | exact List.Mem.head _ | assumption | apply List.Mem.tail)) (by rfl) rfl ?_   -- 7.3
        refine V_ld (.s _ _ _) Tryd.isAgg9 rfl (by repeat (first | exact List.Mem.head _ | assumption | apply List.Mem.tail)) (by rfl) rfl ?_   -- 7.4
        refine V_mov (.s _ _ _) rfl rfl ?_   -- 7.5
        refine V_add (.s _ _ _) rfl rfl (wrap_ok (by omega)) rfl ?_   -- 7.6
        refine V_sslcL (p := u) (.s _ _ _) Tryd.underlying9 rfl rfl (by omega) (by omega) rfl ?_   -- 7.7
        rw [show (((i : Nat) : Int) + 1).toNat = i + 1 by omega]
        refine V_ld (.s _ _ _) Tryd.isAgg9 rfl (by repeat (first | exact List.Mem.head _ | assumption | apply List.Mem.tail)) (by rfl) rfl ?_   -- 7.8
        refine V_mov (.s _ _ _) rfl rfl ?_   -- 7.9
        refine V_add (.s _ _ _) rfl rfl (wrap_ok (by omega)) rfl ?_   -- 7.10
        refine V_sslcL (p := v) (.s _ _ _) Tryd.underlying9 rfl rfl (by omega) (by omega) rfl ?_   -- 7.11
        rw [show (((k : Nat) : Int) + 1).toNat = k + 1 by omega]
        refine V_callC (post := fun v1 G' => ∃ es' clk', v1 = .string ⟨(com (u.drop (i + 1)) (v.drop (k + 1))).toArray⟩ ∧ Memo kS fS okS es' ∧ G' = .m b es' clk' :: .f b10 5 (By letters) (8, 9) :: R) (.s _ _ _) Tryd.call57 rfl (.cons rfl (.cons rfl .nil)) (fun w1 hw1 => by
          have h := ih (u.drop (i + 1)) (v.drop (k + 1)) (by rw [List.length_drop]; omega) (by rw [List.length_drop]; omega) (.f b10 5 (By letters) (8, 9) :: R) es1 clk1 w1 (fun x hx => List.mem_cons_of_mem _ hx) hes1 (hw1.perm (List.Perm.swap _ _ _))
          exact h.mono fun e w2 ⟨es', clk', he, hm, hs⟩ => ⟨_, _, he, hs, es', clk', rfl, hm, rfl⟩) rfl ?_
        rintro v1 G' ⟨es2, clk2, rfl, hes2, rfl⟩
        have hcl := com_le (u.drop (i + 1)) (v.drop (k + 1))
        rw [List.length_drop] at hcl
        refine V_cat (p := [cc]) (.s _ _ _) rfl rfl (by rw [List.length_singleton]; omega) rfl ?_   -- 7.13
        refine V_asg (.s _ _ _) rfl rfl ?_   -- 7.14
        refine V_sub [(0, _), (1, _), (2, _), (3, _), (4, _), (6, _), (7, _), (8, _), (9, _), (11, _), (12, _), (13, _), (14, _), (26, _)] ⟨rfl, rfl, rfl, rfl, rfl, rfl, rfl, rfl, rfl, rfl, rfl, rfl, rfl, rfl, trivial⟩ ?_
        refine V_nil (.inr ⟨_, rfl⟩) ?_
        refine E_then ?_
        refine J_seq ?_
        refine J_region ?_
        refine V_mov (.n _) rfl rfl ?_   -- 8.0
        refine V_slen (.n _) Tryd.underlying9 rfl rfl ?_   -- 8.1
        refine V_mov (.n _) rfl rfl ?_   -- 8.2
        refine V_slen (.n _) Tryd.underlying9 rfl rfl ?_   -- 8.3
        refine V_gtr (.n _) rfl rfl rfl ?_   -- 8.4
        refine V_sub [(0, _), (1, _), (2, _), (3, _), (4, _), (6, _), (7, _), (8, _), (9, _), (11, _), (12, _), (13, _), (14, _), (26, _), (45, _)] ⟨rfl, rfl, rfl, rfl, rfl, rfl, rfl, rfl, rfl, rfl, rfl, rfl, rfl, rfl, rfl, trivial⟩ ?_
        refine V_nil (.inl rfl) ?_
        refine E_then ?_
        refine J_cond rfl (fun h3 => ?_) (fun h3 => ?_)   -- C2
        · skip
          refine J_region ?_
          refine V_mov (.n _) rfl rfl ?_   -- 9.0
          refine V_asg (.n _) rfl rfl ?_   -- 9.1
          refine V_sub [(0, _), (1, _), (2, _), (3, _), (4, _), (6, _), (7, _), (8, _), (9, _), (11, _), (12, _), (13, _), (14, _), (26, _), (45, _)] ⟨rfl, rfl, rfl, rfl, rfl, rfl, rfl, rfl, rfl, rfl, rfl, rfl, rfl, rfl, rfl, trivial⟩ ?_
          refine V_nil (.inl rfl) ?_
          refine E_blk ?_
          refine E_then ?_
          refine J_region ?_
          refine V_add (.n _) rfl rfl (wrap_ok (by omega)) rfl ?_   -- 10.0
          refine V_mov (.n _) rfl rfl ?_   -- 10.1
          refine V_sub [(0, _), (1, _), (2, _), (3, _), (4, _), (6, _), (7, _), (8, _), (9, _), (11, _), (12, _), (13, _), (14, _), (26, _), (45, _)] ⟨rfl, rfl, rfl, rfl, rfl, rfl, rfl, rfl, rfl, rfl, rfl, rfl, rfl, rfl, rfl, trivial⟩ ?_
          refine V_nil (.inl rfl) ?_
          -- again L0 1
          have hnx2 := hnx.trans ((comStep_some hbi hbk).trans (if_pos (by simp only [List.length_cons, List.length_append, List.length_nil] at *; omega)))
          refine E_again (X := Nat × List MapEntry × Nat) (KI := fun x => [(0, (.pointer (some ⟨b4, 0, none⟩))), (1, (.pointer (some ⟨b5, 0, none⟩))), (2, (.pointer (some ⟨bf, 0, none⟩))), (3, (.string ⟨#[]⟩)), (4, .string ⟨(comTo u v x.1).toArray⟩), (11, (.slice (some ⟨b10, 0, none⟩) 8 8)), (12, .int .i64 8), (13, .int .i64 (x.1 : Nat))]) (GI := fun x => .f b10 5 (By letters) (8, 9) :: .m b x.2.1 x.2.2 :: R) (I := fun x => x.1 ≤ 8 ∧ Memo kS fS okS x.2.1) (μ := fun x => 8 - x.1) (x := (j, es1, clk1)) ((j + 1, es2, clk2)) ?_ ?_ ?_ (fun w h => h.perm (List.Perm.swap _ _ _))
          · show 8 - (j + 1) < 8 - j; omega
          · exact ⟨by dsimp only; omega, hes2⟩
          · refine ⟨rfl, rfl, rfl, rfl, ?_, rfl, rfl, ?_, trivial⟩
            · dsimp only; rw [hnx2]; rfl
            · exact int_eq (by dsimp only; omega)
        · skip
          refine J_skip ?_
          refine E_blk ?_
          refine E_then ?_
          refine J_region ?_
          refine V_add (.n _) rfl rfl (wrap_ok (by omega)) rfl ?_   -- 10.0
          refine V_mov (.n _) rfl rfl ?_   -- 10.1
          refine V_sub [(0, _), (1, _), (2, _), (3, _), (4, _), (6, _), (7, _), (8, _), (9, _), (11, _), (12, _), (13, _), (14, _), (26, _), (45, _)] ⟨rfl, rfl, rfl, rfl, rfl, rfl, rfl, rfl, rfl, rfl, rfl, rfl, rfl, rfl, rfl, trivial⟩ ?_
          refine V_nil (.inl rfl) ?_
          -- again L0 2
          have hnx2 := hnx.trans ((comStep_some hbi hbk).trans (if_neg (by simp only [List.length_cons, List.length_append, List.length_nil] at *; omega)))
          refine E_again (X := Nat × List MapEntry × Nat) (KI := fun x => [(0, (.pointer (some ⟨b4, 0, none⟩))), (1, (.pointer (some ⟨b5, 0, none⟩))), (2, (.pointer (some ⟨bf, 0, none⟩))), (3, (.string ⟨#[]⟩)), (4, .string ⟨(comTo u v x.1).toArray⟩), (11, (.slice (some ⟨b10, 0, none⟩) 8 8)), (12, .int .i64 8), (13, .int .i64 (x.1 : Nat))]) (GI := fun x => .f b10 5 (By letters) (8, 9) :: .m b x.2.1 x.2.2 :: R) (I := fun x => x.1 ≤ 8 ∧ Memo kS fS okS x.2.1) (μ := fun x => 8 - x.1) (x := (j, es1, clk1)) ((j + 1, es2, clk2)) ?_ ?_ ?_ (fun w h => h.perm (List.Perm.swap _ _ _))
          · show 8 - (j + 1) < 8 - j; omega
          · exact ⟨by dsimp only; omega, hes2⟩
          · refine ⟨rfl, rfl, rfl, rfl, ?_, rfl, rfl, ?_, trivial⟩
            · dsimp only; rw [hnx2]; rfl
            · exact int_eq (by dsimp only; omega)
    · skip
      refine J_exit ?_
      refine E_then_exit ?_
      refine E_lp_exit ?_
      refine E_blk_hit ?_
      refine E_then ?_
      refine J_seq ?_
      refine J_region ?_
      refine V_mov (.n _) rfl rfl ?_   -- 11.0
      refine V_asg (.n _) rfl rfl ?_   -- 11.1
      refine V_sub [(0, _), (1, _), (2, _), (3, _), (4, _), (11, _), (12, _), (13, _), (14, _)] ⟨rfl, rfl, rfl, rfl, rfl, rfl, rfl, rfl, rfl, trivial⟩ ?_
      refine V_nil (.inl rfl) ?_
      refine E_then ?_
      refine J_ret ?_
      -- return R0
      refine E_ret1 Tryd.results59 rfl (fun w hw => ?_)
      obtain rfl : j = 8 := by omega
      exact ⟨es1, clk1, by rw [fS, com_eq]; rfl, hes1, hw.sublist (by simp)⟩

theorem comfind_one (w0 : World) (bm bf b : Nat) (u v : List UInt8) (hu : u.length ≤ 8) (hv : v.length ≤ 8) (R : List Ent) (hE : SE bm bf b R)
    (ih : ∀ (u' v' : List UInt8), u'.length < u.length → v'.length ≤ 8 → ∀ (R' : List Ent) (es : List MapEntry) (clk : Nat) (w : World), (∀ x ∈ R, x ∈ R') → Memo kS fS okS es → St w0 (.m b es clk :: R') w →
      Calls Tryd.prog 57 #[.string ⟨u'.toArray⟩, .string ⟨v'.toArray⟩, .pointer (some ⟨bm, 0, none⟩), .pointer (some ⟨bf, 0, none⟩)] w fun e w' => ∃ es' clk', e = .returned (fS (u', v')) ∧ Memo kS fS okS es' ∧ St w0 (.m b es' clk' :: R') w')
    (es : List MapEntry) (clk : Nat) (w : World) (hes : Memo kS fS okS es) (hst : St w0 (.m b es clk :: R) w) :
    Calls Tryd.prog 57 #[.string ⟨u.toArray⟩, .string ⟨v.toArray⟩, .pointer (some ⟨bm, 0, none⟩), .pointer (some ⟨bf, 0, none⟩)] w fun e w' => ∃ es' clk', e = .returned (fS (u, v)) ∧ Memo kS fS okS es' ∧ St w0 (.m b es' clk' :: R) w' := by
  have hEm := hE.m
  refine calls (args := [.string ⟨u.toArray⟩, .string ⟨v.toArray⟩, .pointer (some ⟨bm, 0, none⟩), .pointer (some ⟨bf, 0, none⟩)]) Tryd.func57 rfl Tryd.ntmps57 (Nat.le_of_ble_eq_true rfl) hst ?_
  refine J_seq ?_
  refine J_region ?_
  refine V_box (.n _) rfl rfl rfl (fun _ => trivial) (fun b4 => ?_)   -- 0.0
  refine V_box (.n _) rfl rfl rfl (fun _ => trivial) (fun b5 => ?_)   -- 0.1
  refine V_asg (.n _) rfl rfl ?_   -- 0.2
  refine V_sub [(0, _), (1, _), (2, _), (3, _), (4, _), (5, _), (6, _)] ⟨rfl, rfl, rfl, rfl, rfl, rfl, rfl, trivial⟩ ?_
  refine V_nil (.inl rfl) ?_
  refine E_then ?_
  refine J_seq ?_
  refine J_region ?_
  refine V_ldN (vs := [.map (some b)]) (.n _) Tryd.isAgg82 Tryd.sizeOf82 rfl (by repeat (first | exact List.Mem.head _ | assumption | apply List.Mem.tail)) rfl rfl rfl ?_   -- 1.0
  refine V_ld (.n _) Tryd.isAgg9 rfl (by repeat (first | exact List.Mem.head _ | assumption | apply List.Mem.tail)) (by rfl) rfl ?_   -- 1.1
  refine V_ld (.n _) Tryd.isAgg9 rfl (by repeat (first | exact List.Mem.head _ | assumption | apply List.Mem.tail)) (by rfl) rfl ?_   -- 1.2
  refine V_build (zs := [.string ⟨#[]⟩, .string ⟨#[]⟩]) (pl := [(0, 1), (1, 1)]) (.n _) (Pls.struct Tryd.underlying85 Tryd.zeroValue85 rfl rfl (by intro i f x hf hx; match i, hf, hx with | 0, hf, hx => (cases hf; cases hx; exact ⟨rfl, Tryd.sizeOf9⟩) | 1, hf, hx => (cases hf; cases hx; exact ⟨rfl, Tryd.sizeOf9⟩))) (.cons rfl rfl rfl rfl rfl (.cons .z .nil) (.cons rfl rfl rfl rfl rfl (.cons (.s .z) .nil) .nil)) rfl ?_   -- 1.3
  refine V_mkf (.n _) (.cons rfl (.cons rfl (.cons rfl .nil))) rfl ?_   -- 1.4
  refine V_callW (post := fun v1 G' => ∃ es' clk', v1 = fS (u, v) ∧ Memo kS fS okS es' ∧ G' = .m b es' clk' :: .c b5 9 [.string ⟨v.toArray⟩] :: .c b4 9 [.string ⟨u.toArray⟩] :: R) (.n _) Tryd.call58 (.cons rfl (.cons rfl (.cons rfl .nil))) (fun w1 hw1 => by
    have h := comof_spec w0 (u, v) b _ (.c b5 9 [.string ⟨v.toArray⟩] :: .c b4 9 [.string ⟨u.toArray⟩] :: R) ⟨hu, hv⟩ (fun R' es clk w hsub hes hst => combody_spec w0 bm bf b b4 b5 u v hu hv R' (hE.mono (fun x hx => hsub x (List.mem_cons_of_mem _ (List.mem_cons_of_mem _ hx)))) (hsub _ (.tail _ (.head _))) (hsub _ (.head _)) (fun u' v' h1 h2 R'' es clk w hs2 => ih u' v' h1 h2 R'' es clk w (fun x hx => hs2 x (hsub x (List.mem_cons_of_mem _ (List.mem_cons_of_mem _ hx))))) es clk w hes hst) es clk w1 hes (hw1.perm (List.perm_middle (l₁ := [_, _])).symm)
    exact h.mono fun e w2 ⟨es', clk', he, hm, hs⟩ => ⟨_, _, he, hs, es', clk', rfl, hm, rfl⟩) rfl ?_
  rintro v1 G' ⟨es2, clk2, rfl, hes2, rfl⟩
  refine V_asg (.n _) rfl rfl ?_   -- 1.6
  refine V_sub [(0, _), (1, _), (2, _), (3, _), (4, _), (5, _), (6, _)] ⟨rfl, rfl, rfl, rfl, rfl, rfl, rfl, trivial⟩ ?_
  refine V_nil (.inl rfl) ?_
  refine E_then ?_
  refine J_ret ?_
  -- return R0
  refine E_ret1 Tryd.results57 rfl (fun w hw => ?_)
  exact ⟨es2, clk2, rfl, hes2, hw.sublist ((((List.Sublist.refl _).cons _).cons _).cons_cons _)⟩


theorem comfind_spec (w0 : World) (bm bf b : Nat) : ∀ (k : Nat) (u v : List UInt8), u.length = k → u.length ≤ 8 → v.length ≤ 8 → ∀ (R : List Ent) (es : List MapEntry) (clk : Nat) (w : World), SE bm bf b R → Memo kS fS okS es → St w0 (.m b es clk :: R) w →
    Calls Tryd.prog 57 #[.string ⟨u.toArray⟩, .string ⟨v.toArray⟩, .pointer (some ⟨bm, 0, none⟩), .pointer (some ⟨bf, 0, none⟩)] w fun e w' => ∃ es' clk', e = .returned (fS (u, v)) ∧ Memo kS fS okS es' ∧ St w0 (.m b es' clk' :: R) w' := by
  intro k
  induction k using Nat.strongRecOn with
  | _ k ih =>
    intro u v hk hu hv R es clk w hE hes hst
    exact comfind_one w0 bm bf b u v hu hv R hE (fun u' v' h1 h2 R' es clk w hsub => ih u'.length (by omega) u' v' rfl (by omega) h2 R' es clk w (hE.mono hsub)) es clk w hes hst
def comR (u v : List UInt8) : List UInt8 × Int := if isWord u = true ∧ isWord v = true then (com u v, 0) else ([], 2)
theorem isWord_len {s : List UInt8} (h : isWord s = true) : s.length ≤ 8 := by simp [isWord] at h; exact h.1
theorem isWord_letters {s : List UInt8} (h : isWord s = true) : ∀ c ∈ s, c ∈ letters := by
  simp [isWord] at h
  intro c hc
  exact h.2 c hc

theorem Common_spec (w : World) (u v : List UInt8) : Calls Tryd.prog 19 #[.string ⟨u.toArray⟩, .string ⟨v.toArray⟩] w fun e w' => e = .returned (.tuple #[.string ⟨(comR u v).1.toArray⟩, .int .i64 (comR u v).2]) ∧ St w [] w' := by
  refine calls (args := [.string ⟨u.toArray⟩, .string ⟨v.toArray⟩]) Tryd.func19 rfl Tryd.ntmps19 (Nat.le_of_ble_eq_true rfl) (St.refl w) ?_
  refine J_seq ?_
  refine J_region ?_
  refine V_asg (.n _) rfl rfl ?_   -- 0.0
  refine V_asg (.n _) rfl rfl ?_   -- 0.1
  refine V_sub [(0, _), (1, _), (4, _), (5, _)] ⟨rfl, rfl, rfl, rfl, trivial⟩ ?_
  refine V_nil (.inl rfl) ?_
  refine E_then ?_
  refine J_seq ?_
  refine J_seq ?_
  refine J_region ?_
  refine V_mov (.n _) rfl rfl ?_   -- 1.0
  refine V_call0 (.n _) Tryd.call55 (.cons rfl .nil) (fun w1 hw1 => word_spec w1 u) rfl trivial ?_   -- 1.1
  refine V_notB (.n _) rfl rfl ?_   -- 1.2
  refine V_mov (.n _) rfl rfl ?_   -- 1.3
  refine V_splitB 11 rfl (fun h1 => ?_) (fun h1 => ?_)   -- guard 1.3
  · skip
    refine V_pass (.n .p) (3, false) rfl rfl ?_   -- 1.4
    refine V_pass (.n .p) (3, false) rfl rfl ?_   -- 1.5
    refine V_pass (.n .p) (3, false) rfl rfl ?_   -- 1.6
    refine V_pickT (.n _) rfl rfl rfl ?_   -- 1.7
    refine V_sub [(0, _), (1, _), (4, _), (5, _), (15, _)] ⟨rfl, rfl, rfl, rfl, rfl, trivial⟩ ?_
    refine V_nil (.inl rfl) ?_
    refine E_then ?_
    refine J_condT rfl ?_
    refine J_seq ?_
    refine J_region ?_
    refine V_asg (.n _) rfl rfl ?_   -- 2.0
    refine V_asg (.n _) rfl rfl ?_   -- 2.1
    refine V_sub [(0, _), (1, _), (4, _), (5, _), (15, _)] ⟨rfl, rfl, rfl, rfl, rfl, trivial⟩ ?_
    refine V_nil (.inl rfl) ?_
    refine E_then ?_
    refine J_ret ?_
    refine E_then_ret ?_
    -- return R0
    refine E_ret2 Tryd.results19 rfl rfl (fun w hw => ?_)
    exact ⟨by rw [comR, if_neg (fun hh => by simp_all)], hw⟩
  · skip
    refine V_go (3, false) rfl ?_
    refine V_mov (.n _) rfl rfl ?_   -- 1.4
    refine V_go (3, false) rfl ?_
    refine V_call0 (.n _) Tryd.call55 (.cons rfl .nil) (fun w1 hw1 => word_spec w1 v) rfl trivial ?_   -- 1.5
    refine V_go (3, false) rfl ?_
    refine V_notB (.n _) rfl rfl ?_   -- 1.6
    refine V_pickF (.n _) rfl rfl rfl ?_   -- 1.7
    refine V_sub [(0, _), (1, _), (4, _), (5, _), (15, _)] ⟨rfl, rfl, rfl, rfl, rfl, trivial⟩ ?_
    refine V_nil (.inl rfl) ?_
    refine E_then ?_
    refine J_condB rfl (fun h2 => ?_) (fun h2 => ?_)   -- C0
    · skip
      refine J_seq ?_
      refine J_region ?_
      refine V_asg (.n _) rfl rfl ?_   -- 2.0
      refine V_asg (.n _) rfl rfl ?_   -- 2.1
      refine V_sub [(0, _), (1, _), (4, _), (5, _), (15, _)] ⟨rfl, rfl, rfl, rfl, rfl, trivial⟩ ?_
      refine V_nil (.inl rfl) ?_
      refine E_then ?_
      refine J_ret ?_
      refine E_then_ret ?_
      -- return R1
      refine E_ret2 Tryd.results19 rfl rfl (fun w hw => ?_)
      exact ⟨by rw [comR, if_neg (fun hh => by simp_all)], hw⟩
    · have hu : isWord u = true := by simp_all
      have hv : isWord v = true := by simp_all
      refine J_skip ?_
      refine E_then ?_
      refine J_seq ?_
      refine J_region ?_
      refine V_call (post := fun v1 D => ∃ b, v1 = .agg #[.map (some b)] ∧ D = [.m b [] 0]) (.n _) Tryd.call56 .nil (fun w1 hw1 => rememberS_spec w1) rfl trivial ?_
      rintro _ D ⟨b, rfl, rfl⟩
      refine V_alloc (.n _) Tryd.zeroValue82 rfl rfl (fun _ => trivial) (fun b6 => ?_)   -- 3.1
      refine V_stN (us := [.map (some b)]) (.n _) Tryd.sizeOf82 rfl rfl rfl (by simp [Value.oneCell']) (by repeat (first | exact SetAt.z | apply SetAt.s)) rfl rfl ?_   -- 3.2
      refine V_sub [(0, _), (1, _), (4, _), (5, _), (6, _), (15, _)] ⟨rfl, rfl, rfl, rfl, rfl, rfl, trivial⟩ ?_
      refine V_nil (.inl rfl) ?_
      refine E_then ?_
      refine J_seq ?_
      refine J_region ?_
      refine V_alloc (.n _) Tryd.zeroValue78 rfl rfl (fun _ => trivial) (fun b7 => ?_)   -- 4.0
      refine V_sub [(0, _), (1, _), (4, _), (5, _), (6, _), (7, _), (15, _)] ⟨rfl, rfl, rfl, rfl, rfl, rfl, rfl, trivial⟩ ?_
      refine V_nil (.inl rfl) ?_
      refine E_then ?_
      refine J_seq ?_
      refine J_region ?_
      refine V_mkf (.n _) (.cons rfl (.cons rfl .nil)) rfl ?_   -- 5.0
      refine V_stF (.n _) Tryd.sizeOf78 rfl rfl rfl (by repeat (first | exact SetAt.z | apply SetAt.s)) (by repeat (first | exact LSet.z | apply LSet.s)) ?_   -- 5.1
      refine V_sub [(0, _), (1, _), (4, _), (5, _), (6, _), (7, _), (15, _)] ⟨rfl, rfl, rfl, rfl, rfl, rfl, rfl, trivial⟩ ?_
      refine V_nil (.inl rfl) ?_
      refine E_then ?_
      refine J_seq ?_
      refine J_region ?_
      refine V_ld (.n _) Tryd.isAgg78 rfl (by repeat (first | exact List.Mem.head _ | assumption | apply List.Mem.tail)) (by rfl) rfl ?_   -- 6.0
      refine V_mov (.n _) rfl rfl ?_   -- 6.1
      refine V_mov (.n _) rfl rfl ?_   -- 6.2
      refine V_callC (post := fun v1 G' => v1 = fS (u, v)) (.n _) Tryd.call57 rfl (.cons rfl (.cons rfl .nil)) (fun w1 hw1 => by
        have h := comfind_spec w b6 b7 b _ u v rfl (isWord_len hu) (isWord_len hv) _ [] 0 w1 ⟨(by repeat (first | exact List.Mem.head _ | assumption | apply List.Mem.tail)), (by repeat (first | exact List.Mem.head _ | assumption | apply List.Mem.tail))⟩ (Memo.nil _ _ _) (hw1.sel [2, 0, 1] (by decide))
        exact h.mono fun e w2 ⟨es', clk', he, hm, hs⟩ => ⟨_, _, he, hs, rfl⟩) rfl ?_
      rintro _ G' rfl
      refine V_asg (.n _) rfl rfl ?_   -- 6.4
      refine V_asg (.n _) rfl rfl ?_   -- 6.5
      refine V_sub [(0, _), (1, _), (4, _), (5, _), (6, _), (7, _), (15, _)] ⟨rfl, rfl, rfl, rfl, rfl, rfl, rfl, trivial⟩ ?_
      refine V_nil (.inl rfl) ?_
      refine E_then ?_
      refine J_ret ?_
      -- return R2
      refine E_ret2 Tryd.results19 rfl rfl (fun w hw => ?_)
      exact ⟨by rw [comR, if_pos ⟨hu, hv⟩]; rfl, hw.sub (fun x hx => by simp at hx) (by simp [keys])⟩

end Go.Proofs.YtgeahmmepfmcoaaDoor
