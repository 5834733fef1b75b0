/- parts that the proof of BathTours uses -/
import Derived.Test.YtgeahmmepfmcoaaDoorCommon
namespace Go.Proofs.YtgeahmmepfmcoaaDoor
open Go Go.RowKit L
set_option linter.unusedVariables false
set_option linter.unusedSimpArgs false

def kP (k : Nat × Nat) : Value := .agg #[.int .i64 k.1, .int .i64 k.2]
def fP (d : Rows2) (k : Nat × Nat) : Value := .int .i64 (home d.length d k.1 k.2)
def okP (k : Nat × Nat) : Prop := k.1 < 1024 ∧ k.2 < 16
theorem keyLits_int {P : Program} {t : TypeId} (hu : P.underlying t = some (.int .i64)) {p : Nat} (h : p < 1024) (d : Nat) : P.keyLits (d + 1) t [.int .i64 p] = some [.int .i64 p] := by
  simp only [Program.keyLits, hu]
  rw [if_pos ⟨trivial, by simp [Lit.wf, IntKind.min, IntKind.max, IntKind.bits, IntKind.signed]; omega⟩]
theorem kP_ok : KeyOk Tryd.prog 112 kP okP := KeyOk.deep (Go.deep_law_laid (by kernel_rfl) (m := 3) (Nat.le_of_ble_eq_true rfl) (of_decide_eq_true (by kernel_rfl)) (by kernel_rfl) (by kernel_rfl))
  (fun a b h => by
    obtain ⟨a1, a2⟩ := a
    obtain ⟨b1, b2⟩ := b
    simp [kP] at h
    have h1 := h.1
    have h2 := h.2
    exact Prod.ext (by show a1 = b1; omega) (by show a2 = b2; omega))
  (fun k hk => keyOf_two Tryd.underlying112 (by kernel_rfl) ⟨_, rfl⟩ (by kernel_rfl) (by decide) (by decide) rfl rfl (by kernel_rfl) (by kernel_rfl) (keyLits_int Tryd.underlying3 hk.1) (keyLits_int Tryd.underlying3 (Nat.lt_trans hk.2 (by decide))))
structure HE (A : Option Addr) (c : Nat) (d : Rows2) (bm bn bd bf b : Nat) (R : List Ent) : Prop where
  m : Ent.c bm 109 [.map (some b)] ∈ R
  n : Ent.c bn 3 [.int .i64 d.length] ∈ R
  d : Ent.c bd 45 [.slice A d.length c] ∈ R
  f : Ent.c bf 106 [.func (.func 88) #[] #[.pointer (some ⟨bm, 0, none⟩), .pointer (some ⟨bn, 0, none⟩), .pointer (some ⟨bd, 0, none⟩), .pointer (some ⟨bf, 0, none⟩)]] ∈ R
theorem HE.mono {A : Option Addr} {c : Nat} {d : Rows2} {bm bn bd bf b : Nat} {R R' : List Ent} (h : HE A c d bm bn bd bf b R) (hs : ∀ x ∈ R, x ∈ R') : HE A c d bm bn bd bf b R' := ⟨hs _ h.m, hs _ h.n, hs _ h.d, hs _ h.f⟩
theorem home_at {d : Rows2} {s i : Nat} (hs : s < 2 ^ d.length) (hne : s ≠ 2 ^ d.length - 1) : bestJ [] (fun j => cst d i j + home d.length d (s ||| 2 ^ j) j) s far2 (List.range d.length) = home d.length d s i := by rw [home_eq hs, if_neg hne]
theorem home_last {d : Rows2} {s i : Nat} (hs : s < 2 ^ d.length) (he : s = 2 ^ d.length - 1) : home d.length d s i = (d.getD i []).getD 0 0 := by rw [home_eq hs, if_pos he]; rfl
theorem pow_cast {n : Nat} (h : 2 ^ n ≤ 1024) : 1 ≤ ((2 ^ n : Nat) : Int) ∧ ((2 ^ n : Nat) : Int) ≤ 1024 := by
  have := Nat.pow_pos (n := n) (show 0 < 2 by decide)
  omega
theorem full_cast (n : Nat) : (((2 ^ n : Nat) : Int) - 1) = ((2 ^ n - 1 : Nat) : Int) := by
  have := Nat.pow_pos (n := n) (show 0 < 2 by decide)
  omega
theorem fol_bit {s j : Nat} (h : s.testBit j = false) : fol [] s j = true := by rw [fol00, h]; rfl
theorem fol_bitn {s j : Nat} (h : s.testBit j = true) : fol [] s j = false := by rw [fol00, h]; rfl
def hB (d : Rows2) (s i j : Nat) : Int := bestJ [] (fun j => cst d i j + home d.length d (s ||| 2 ^ j) j) s far2 (List.range j)
theorem hB_yes {d : Rows2} {s i j : Nat} (h : s.testBit j = false) : hB d s i (j + 1) = min (hB d s i j) ((d.getD i []).getD j 0 + home d.length d (s ||| 2 ^ j) j) := bestJ_yes (fol_bit h)
theorem hB_no {d : Rows2} {s i j : Nat} (h : s.testBit j = true) : hB d s i (j + 1) = hB d s i j := bestJ_no (fol_bitn h)

theorem rememberP_spec (w : World) : Calls Tryd.prog 87 #[] w fun e w' => ∃ v D, e = .returned v ∧ St w D w' ∧ ∃ b, v = .agg #[.map (some b)] ∧ D = [.m b [] 0] := by
  refine calls (args := []) Tryd.func87 rfl Tryd.ntmps87 (Nat.le_of_ble_eq_true rfl) (St.refl w) ?_
  refine J_seq ?_
  refine J_region ?_
  refine V_alloc (.n _) Tryd.zeroValue109 rfl rfl (fun _ => trivial) (fun b0 => ?_)   -- 0.0
  refine V_sub [(0, _)] ⟨rfl, trivial⟩ ?_
  refine V_nil (.inl rfl) ?_
  refine E_then ?_
  refine J_seq ?_
  refine J_region ?_
  refine V_mkm (.n _) rfl (fun _ => trivial) (fun b1 => ?_)   -- 1.0
  refine V_build (zs := [.map none]) (pl := [(0, 1)]) (.n _) (Pls.struct Tryd.underlying109 Tryd.zeroValue109 rfl rfl (by intro i f x hf hx; match i, hf, hx with | 0, hf, hx => cases hf; cases hx; exact ⟨rfl, Tryd.sizeOf107⟩)) (.cons rfl rfl rfl rfl rfl (.cons .z .nil) .nil) rfl ?_   -- 1.1
  refine V_stN (us := [.map (some b1)]) (.n _) Tryd.sizeOf109 rfl rfl rfl (by simp [Value.oneCell']) (by repeat (first | exact SetAt.z | apply SetAt.s)) rfl rfl ?_   -- 1.2
  refine V_sub [(0, _)] ⟨rfl, trivial⟩ ?_
  refine V_nil (.inl rfl) ?_
  refine E_then ?_
  refine J_ret ?_
  -- return R0
  refine E_rets (rs := [.cell 0 109]) Tryd.results87 (.c rfl Tryd.isAgg109 Tryd.sizeOf109 (by repeat (first | exact List.Mem.head _ | assumption | apply List.Mem.tail | apply List.mem_append_right)) rfl .nil) rfl (fun w hw => ?_)
  exact ⟨_, _, rfl, hw.sublist (by simp), b1, rfl, rfl⟩

theorem placeof_spec (d : Rows2) (w0 : World) (k : Nat × Nat) (b : Nat) (cap : Array Value) (R : List Ent) (hok : (okP) k)
    (hfind : ∀ (R' : List Ent) (es : List MapEntry) (clk : Nat) (w : World), (∀ x ∈ R, x ∈ R') → Memo (kP) (fP d) (okP) es → St w0 (.m b es clk :: R') w →
      Calls Tryd.prog 90 cap w fun e w' => ∃ es' clk', e = .returned ((fP d) k) ∧ Memo (kP) (fP d) (okP) es' ∧ St w0 (.m b es' clk' :: R') w')
    (es : List MapEntry) (clk : Nat) (w : World) (hes : Memo (kP) (fP d) (okP) es) (hst : St w0 (.m b es clk :: R) w) :
    Calls Tryd.prog 89 #[.agg #[.map (some b)], (kP) k, .func (.func 90) #[] cap] w fun e w' => ∃ es' clk', e = .returned ((fP d) k) ∧ Memo (kP) (fP d) (okP) es' ∧ St w0 (.m b es' clk' :: R) w' := by
  refine calls (args := [.agg #[.map (some b)], (kP) k, .func (.func 90) #[] cap]) Tryd.func89 rfl Tryd.ntmps89 (Nat.le_of_ble_eq_true rfl) hst ?_
  refine J_seq ?_
  refine J_region ?_
  refine V_box (.n _) rfl rfl rfl (fun _ => trivial) (fun b3 => ?_)   -- 0.0
  refine V_box (.n _) rfl rfl rfl (fun _ => trivial) (fun b4 => ?_)   -- 0.1
  refine V_asg (.n _) rfl rfl ?_   -- 0.2
  refine V_sub [(0, _), (1, _), (2, _), (3, _), (4, _), (6, _)] ⟨rfl, rfl, rfl, rfl, rfl, rfl, trivial⟩ ?_
  refine V_nil (.inl rfl) ?_
  refine E_then ?_
  refine J_seq ?_
  refine J_seq ?_
  refine J_region ?_
  first | refine V_fa0 (.n _) fo109_0 rfl rfl ?_ | refine V_faz (.n _) fo109_0 rfl rfl ?_ | refine V_fa (.n _) fo109_0 rfl rfl ?_   -- 1.0
  refine V_ld (.n _) Tryd.isAgg107 rfl (by repeat (first | exact List.Mem.head _ | assumption | apply List.Mem.tail | apply List.mem_append_right)) (by rfl) rfl ?_   -- 1.1
  refine V_ldN (vs := [.int .i64 k.1, .int .i64 k.2]) (.n _) Tryd.isAgg112 Tryd.sizeOf112 rfl (by repeat (first | exact List.Mem.head _ | assumption | apply List.Mem.tail | apply List.mem_append_right)) rfl rfl rfl ?_   -- 1.2
  refine V_lookM (kv := kP) (fv := fP d) (ok := okP) (k := k) (.n _) Tryd.underlying107 kP_ok hok Tryd.zeroValue3 rfl rfl (by repeat (first | exact List.Mem.head _ | assumption | apply List.Mem.tail | apply List.mem_append_right)) hes rfl ?_ ?_
  · skip
    refine V_mov (.n _) rfl rfl ?_   -- 1.4
    refine V_ext (.n _) rfl rfl rfl ?_   -- 1.5
    refine V_ext (.n _) rfl rfl rfl ?_   -- 1.6
    refine V_asg (.n _) rfl rfl ?_   -- 1.7
    refine V_asg (.n _) rfl rfl ?_   -- 1.8
    refine V_sub [(0, _), (1, _), (2, _), (3, _), (4, _), (6, _), (7, _), (8, _)] ⟨rfl, rfl, rfl, rfl, rfl, rfl, rfl, rfl, trivial⟩ ?_
    refine V_nil (.inl rfl) ?_
    refine E_then ?_
    refine J_seq ?_
    refine J_region ?_
    refine V_mov (.n _) rfl rfl ?_   -- 2.0
    refine V_sub [(0, _), (1, _), (2, _), (3, _), (4, _), (6, _), (7, _), (8, _), (17, _)] ⟨rfl, rfl, rfl, rfl, rfl, rfl, rfl, rfl, rfl, trivial⟩ ?_
    refine V_nil (.inl rfl) ?_
    refine E_then ?_
    refine J_condT rfl ?_
    refine J_seq ?_
    refine J_region ?_
    refine V_mov (.n _) rfl rfl ?_   -- 3.0
    refine V_asg (.n _) rfl rfl ?_   -- 3.1
    refine V_sub [(0, _), (1, _), (2, _), (3, _), (4, _), (6, _), (7, _), (8, _), (17, _)] ⟨rfl, rfl, rfl, rfl, rfl, rfl, rfl, rfl, rfl, trivial⟩ ?_
    refine V_nil (.inl rfl) ?_
    refine E_then ?_
    refine J_ret ?_
    refine E_then_ret ?_
    -- return R0
    refine E_ret1 Tryd.results89 rfl (fun w hw => ?_)
    exact ⟨es, clk, rfl, hes, hw.sublist (by first | exact (List.Sublist.refl _).cons _ | exact ((List.Sublist.refl _).cons _).cons _ | exact ((List.Sublist.refl _).cons _).cons_cons _ | exact (((List.Sublist.refl _).cons _).cons _).cons_cons _)⟩
  · skip
    refine V_mov (.n _) rfl rfl ?_   -- 1.4
    refine V_ext (.n _) rfl rfl rfl ?_   -- 1.5
    refine V_ext (.n _) rfl rfl rfl ?_   -- 1.6
    refine V_asg (.n _) rfl rfl ?_   -- 1.7
    refine V_asg (.n _) rfl rfl ?_   -- 1.8
    refine V_sub [(0, _), (1, _), (2, _), (3, _), (4, _), (6, _), (7, _), (8, _)] ⟨rfl, rfl, rfl, rfl, rfl, rfl, rfl, rfl, trivial⟩ ?_
    refine V_nil (.inl rfl) ?_
    refine E_then ?_
    refine J_seq ?_
    refine J_region ?_
    refine V_mov (.n _) rfl rfl ?_   -- 2.0
    refine V_sub [(0, _), (1, _), (2, _), (3, _), (4, _), (6, _), (7, _), (8, _), (17, _)] ⟨rfl, rfl, rfl, rfl, rfl, rfl, rfl, rfl, rfl, trivial⟩ ?_
    refine V_nil (.inl rfl) ?_
    refine E_then ?_
    refine J_condF rfl ?_
    refine J_skip ?_
    refine E_then ?_
    refine J_seq ?_
    refine J_region ?_
    refine V_mov (.n _) rfl rfl ?_   -- 4.0
    refine V_callC (post := fun v G' => ∃ es' clk', v = (fP d) k ∧ Memo (kP) (fP d) (okP) es' ∧ G' = .m b es' clk' :: .c b4 112 ([.int .i64 k.1, .int .i64 k.2]) :: .c b3 109 [.map (some b)] :: R) (.n _) Tryd.call90 rfl .nil (fun w1 hw1 => by
      have h := hfind (.c b4 112 ([.int .i64 k.1, .int .i64 k.2]) :: .c b3 109 [.map (some b)] :: R) es clk w1 (fun x hx => List.mem_cons_of_mem _ (List.mem_cons_of_mem _ hx)) hes (hw1.perm ((List.perm_middle (l₁ := [_, _])).symm))
      simp only [List.nil_append, Array.empty_append, List.append_nil, Array.append_empty] at h ⊢
      exact h.mono fun e w2 ⟨es', clk', he, hm, hs⟩ => ⟨_, _, he, hs, es', clk', rfl, hm, rfl⟩) rfl ?_
    rintro v G' ⟨es', clk', rfl, hes', rfl⟩
    refine V_asg (.n _) rfl rfl ?_   -- 4.2
    refine V_sub [(0, _), (1, _), (2, _), (3, _), (4, _), (6, _), (7, _), (8, _), (9, _), (17, _)] ⟨rfl, rfl, rfl, rfl, rfl, rfl, rfl, rfl, rfl, rfl, trivial⟩ ?_
    refine V_nil (.inl rfl) ?_
    refine E_then ?_
    refine J_seq ?_
    refine J_region ?_
    first | refine V_fa0 (.n _) fo109_0 rfl rfl ?_ | refine V_faz (.n _) fo109_0 rfl rfl ?_ | refine V_fa (.n _) fo109_0 rfl rfl ?_   -- 5.0
    refine V_ld (.n _) Tryd.isAgg107 rfl (by repeat (first | exact List.Mem.head _ | assumption | apply List.Mem.tail | apply List.mem_append_right)) (by rfl) rfl ?_   -- 5.1
    refine V_ldN (vs := [.int .i64 k.1, .int .i64 k.2]) (.n _) Tryd.isAgg112 Tryd.sizeOf112 rfl (by repeat (first | exact List.Mem.head _ | assumption | apply List.Mem.tail | apply List.mem_append_right)) rfl rfl rfl ?_   -- 5.2
    refine V_mov (.n _) rfl rfl ?_   -- 5.3
    refine V_setM (kv := kP) (fv := fP d) (ok := okP) (k := k) (G1 := []) (.n _) Tryd.underlying107 kP_ok rfl rfl rfl rfl hes' hok (fun es2 clk2 hes2 => ?_)   -- 5.4
    refine V_sub [(0, _), (1, _), (2, _), (3, _), (4, _), (6, _), (7, _), (8, _), (9, _), (17, _)] ⟨rfl, rfl, rfl, rfl, rfl, rfl, rfl, rfl, rfl, rfl, trivial⟩ ?_
    refine V_nil (.inl rfl) ?_
    refine E_then ?_
    refine J_seq ?_
    refine J_region ?_
    refine V_mov (.n _) rfl rfl ?_   -- 6.0
    refine V_asg (.n _) rfl rfl ?_   -- 6.1
    refine V_sub [(0, _), (1, _), (2, _), (3, _), (4, _), (6, _), (7, _), (8, _), (9, _), (17, _)] ⟨rfl, rfl, rfl, rfl, rfl, rfl, rfl, rfl, rfl, rfl, trivial⟩ ?_
    refine V_nil (.inl rfl) ?_
    refine E_then ?_
    refine J_ret ?_
    -- return R1
    refine E_ret1 Tryd.results89 rfl (fun w hw => ?_)
    exact ⟨es2, clk2, rfl, hes2, hw.sublist (by first | exact (List.Sublist.refl _).cons _ | exact ((List.Sublist.refl _).cons _).cons _ | exact ((List.Sublist.refl _).cons _).cons_cons _ | exact (((List.Sublist.refl _).cons _).cons _).cons_cons _)⟩

theorem homebody_spec (w0 : World) (A : Option Addr) (c : Nat) (vs : List Value) (d : Rows2) (hd : DP d) (hm : Mx w0 A vs d) (bm bn bd bf b b6 b7 s i : Nat) (hs : s < 2 ^ d.length) (hi : i < d.length) (R : List Ent) (hE : HE A c d bm bn bd bf b R) (h6 : Ent.c b6 3 [.int .i64 s] ∈ R) (h7 : Ent.c b7 3 [.int .i64 i] ∈ R)
    (ih : ∀ (s' i' : Nat), s < s' → s' < 2 ^ d.length → i' < d.length → ∀ (R' : List Ent) (es : List MapEntry) (clk : Nat) (w : World), (∀ x ∈ R, x ∈ R') → Memo kP (fP d) okP es → St w0 (.m b es clk :: R') w →
      Calls Tryd.prog 88 #[.int .i64 (s' : Nat), .int .i64 (i' : Nat), .pointer (some ⟨bm, 0, none⟩), .pointer (some ⟨bn, 0, none⟩), .pointer (some ⟨bd, 0, none⟩), .pointer (some ⟨bf, 0, none⟩)] w fun e w' => ∃ es' clk', e = .returned (fP d (s', i')) ∧ Memo kP (fP d) okP es' ∧ St w0 (.m b es' clk' :: R') w')
    (es : List MapEntry) (clk : Nat) (w : World) (hes : Memo kP (fP d) okP es) (hst : St w0 (.m b es clk :: R) w) :
    Calls Tryd.prog 90 #[.pointer (some ⟨b6, 0, none⟩), .pointer (some ⟨bn, 0, none⟩), .pointer (some ⟨bd, 0, none⟩), .pointer (some ⟨b7, 0, none⟩), .pointer (some ⟨bf, 0, none⟩)] w fun e w' => ∃ es' clk', e = .returned (fP d (s, i)) ∧ Memo kP (fP d) okP es' ∧ St w0 (.m b es' clk' :: R) w' := by
  obtain ⟨hEm, hEn, hEd, hEf⟩ := hE
  have h9 := hd.n9
  have h3 := hd.n3
  have hs63 : s < 2 ^ 63 := lt63 hs (by omega)
  have hrl := (hd.row hi).1
  have hcl := (hd.row hi).2
  obtain ⟨Ai, ci, hrowi, hrri⟩ := hm.get (i := i) hi
  have hp10 := pow_few (show d.length ≤ 10 by omega)
  refine calls (args := [.pointer (some ⟨b6, 0, none⟩), .pointer (some ⟨bn, 0, none⟩), .pointer (some ⟨bd, 0, none⟩), .pointer (some ⟨b7, 0, none⟩), .pointer (some ⟨bf, 0, none⟩)]) Tryd.func90 rfl Tryd.ntmps90 (Nat.le_of_ble_eq_true rfl) hst ?_
  refine J_seq ?_
  refine J_region ?_
  refine V_asg (.n _) rfl rfl ?_   -- 0.0
  refine V_sub [(0, _), (1, _), (2, _), (3, _), (4, _), (5, _)] ⟨rfl, rfl, rfl, rfl, rfl, rfl, trivial⟩ ?_
  refine V_nil (.inl rfl) ?_
  refine E_then ?_
  refine J_seq ?_
  refine J_seq ?_
  refine J_draw (Gs := _) (cl := [.r, .r, .p, .p, .p]) (by kernel_rfl) (fun _ _ h => h) ?_
  refine V_ld (.s _ _ _) Tryd.isAgg3 rfl (by repeat (first | exact List.Mem.head _ | assumption | apply List.Mem.tail | apply List.mem_append_right)) (by rfl) rfl ?_   -- 1.0
  refine V_ld (.s _ _ _) Tryd.isAgg3 rfl (by repeat (first | exact List.Mem.head _ | assumption | apply List.Mem.tail | apply List.mem_append_right)) (by rfl) rfl ?_   -- 1.1
  refine V_shl (.s _ _ _) rfl rfl (by omega) (by simp [IntKind.bits]; omega) (by rw [shl_nat]; exact wrap_nat (by omega)) rfl ?_   -- 1.2
  rw [shl_nat]
  have hps := pow_cast hp10
  refine V_sub1 (.s _ _ _) rfl rfl (wrap_ok (by omega)) rfl ?_   -- 1.3
  rw [full_cast]
  refine V_eql (.s _ _ _) rfl rfl rfl ?_   -- 1.4
  refine V_sub [(0, _), (1, _), (2, _), (3, _), (4, _), (5, _), (12, _)] ⟨rfl, rfl, rfl, rfl, rfl, rfl, rfl, trivial⟩ ?_
  refine V_nil (.inr ⟨_, rfl⟩) ?_
  refine E_then ?_
  refine J_cond rfl (fun h1 => ?_) (fun h1 => ?_)   -- C0
  · skip
    refine J_seq ?_
    refine J_region ?_
    refine V_ld (.n _) Tryd.isAgg45 rfl (by repeat (first | exact List.Mem.head _ | assumption | apply List.Mem.tail | apply List.mem_append_right)) (by rfl) rfl ?_   -- 2.0
    refine V_ld (.n _) Tryd.isAgg3 rfl (by repeat (first | exact List.Mem.head _ | assumption | apply List.Mem.tail | apply List.mem_append_right)) (by rfl) rfl ?_   -- 2.1
    first | refine V_ix (.n _) Tryd.underlying45 Tryd.sizeOf34 rfl rfl (by omega) (by omega) rfl ?_ | refine V_ixz (.n _) Tryd.underlying45 Tryd.sizeOf34 rfl rfl (hm.rd.pl (by rw [hm.len]; omega)) (by omega) (by omega) rfl ?_ | refine V_ixz (.n _) Tryd.underlying45 Tryd.sizeOf34 rfl rfl (hrri.pl (by simp)) (by omega) (by omega) rfl ?_   -- 2.2
    refine V_ldz (.n _) Tryd.isAgg34 rfl hm.rd hrowi rfl ?_   -- 2.3
    first | refine V_ix (.n _) Tryd.underlying34 Tryd.sizeOf3 rfl rfl (by omega) (by omega) rfl ?_ | refine V_ixz (.n _) Tryd.underlying34 Tryd.sizeOf3 rfl rfl (hm.rd.pl (by rw [hm.len]; omega)) (by omega) (by omega) rfl ?_ | refine V_ixz (.n _) Tryd.underlying34 Tryd.sizeOf3 rfl rfl (hrri.pl (by simp)) (by omega) (by omega) rfl ?_   -- 2.4
    refine V_ldz (.n _) Tryd.isAgg3 rfl hrri (I_getN (i := 0) (by omega)) rfl ?_   -- 2.5
    refine V_asg (.n _) rfl rfl ?_   -- 2.6
    refine V_sub [(0, _), (1, _), (2, _), (3, _), (4, _), (5, _), (12, _)] ⟨rfl, rfl, rfl, rfl, rfl, rfl, rfl, trivial⟩ ?_
    refine V_nil (.inl rfl) ?_
    refine E_then ?_
    refine J_ret ?_
    refine E_then_ret ?_
    -- return R0
    refine E_ret1 Tryd.results90 rfl (fun w hw => ?_)
    exact ⟨es, clk, by rw [fP, home_last hs (by omega)], hes, hw⟩
  · skip
    refine J_skip ?_
    refine E_then ?_
    refine J_seq ?_
    refine J_region ?_
    refine V_asg (.n _) rfl rfl ?_   -- 3.0
    refine V_sub [(0, _), (1, _), (2, _), (3, _), (4, _), (5, _), (6, _), (12, _)] ⟨rfl, rfl, rfl, rfl, rfl, rfl, rfl, rfl, trivial⟩ ?_
    refine V_nil (.inl rfl) ?_
    refine E_then ?_
    refine J_seq ?_
    refine J_seq ?_
    refine J_region ?_
    refine V_ld (.n _) Tryd.isAgg3 rfl (by repeat (first | exact List.Mem.head _ | assumption | apply List.Mem.tail | apply List.mem_append_right)) (by rfl) rfl ?_   -- 4.0
    refine V_mov (.n _) rfl rfl ?_   -- 4.1
    refine V_sub [(0, _), (1, _), (2, _), (3, _), (4, _), (5, _), (6, _), (12, _), (19, _), (20, _)] ⟨rfl, rfl, rfl, rfl, rfl, rfl, rfl, rfl, rfl, rfl, trivial⟩ ?_
    refine V_nil (.inl rfl) ?_
    refine E_then ?_
    refine J_block ?_
    -- loop L0
    refine J_loop (X := Nat × List MapEntry × Nat) (fun x => [(0, (.pointer (some ⟨b6, 0, none⟩))), (1, (.pointer (some ⟨bn, 0, none⟩))), (2, (.pointer (some ⟨bd, 0, none⟩))), (3, (.pointer (some ⟨b7, 0, none⟩))), (4, (.pointer (some ⟨bf, 0, none⟩))), (5, (.int .i64 (0))), (6, .int .i64 (hB d s i x.1)), (19, (.int .i64 (d.length : Nat))), (20, .int .i64 (x.1 : Nat))]) (fun x => .m b x.2.1 x.2.2 :: R) (fun x => x.1 ≤ d.length ∧ Memo kP (fP d) okP x.2.1) (fun x => d.length - x.1) (0, es, clk) (by refine ⟨?_, ?_, ?_, ?_, ?_, ?_, ?_, ?_, ?_, trivial⟩ <;> first | rfl | exact int_eq (by omega)) (fun w h => h) ?_ ?_
    · exact ⟨by omega, hes⟩
    · rintro ⟨j, es1, clk1⟩ ⟨hj, hes1⟩
      dsimp only at hj hes1 ⊢
      refine J_seq ?_
      refine J_region ?_
      refine V_lss (.n _) rfl rfl rfl ?_   -- 5.0
      refine V_sub [(0, _), (1, _), (2, _), (3, _), (4, _), (5, _), (6, _), (19, _), (20, _), (21, _)] ⟨rfl, rfl, rfl, rfl, rfl, rfl, rfl, rfl, rfl, rfl, trivial⟩ ?_
      refine V_nil (.inl rfl) ?_
      refine E_then ?_
      refine J_seq ?_
      refine J_cond rfl (fun h2 => ?_) (fun h2 => ?_)   -- C1
      · skip
        refine J_skip ?_
        refine E_then ?_
        refine J_seq ?_
        refine J_block ?_
        refine J_seq ?_
        refine J_region ?_
        refine V_mov (.n _) rfl rfl ?_   -- 6.0
        refine V_asg (.n _) rfl rfl ?_   -- 6.1
        refine V_sub [(0, _), (1, _), (2, _), (3, _), (4, _), (5, _), (6, _), (7, _), (19, _), (20, _), (21, _)] ⟨rfl, rfl, rfl, rfl, rfl, rfl, rfl, rfl, rfl, rfl, rfl, trivial⟩ ?_
        refine V_nil (.inl rfl) ?_
        refine E_then ?_
        refine J_seq ?_
        refine J_region ?_
        refine V_ld (.n _) Tryd.isAgg3 rfl (by repeat (first | exact List.Mem.head _ | assumption | apply List.Mem.tail | apply List.mem_append_right)) (by rfl) rfl ?_   -- 7.0
        refine V_mov (.n _) rfl rfl ?_   -- 7.1
        refine V_shr (.n _) rfl rfl (by omega) (by simp [IntKind.bits]; omega) rfl ?_   -- 7.2
        rw [shr_nat]
        refine V_and (r := if s.testBit j then 1 else 0) (.n _) rfl rfl (bit_of s j hs63) rfl ?_   -- 7.3
        refine V_eql (.n _) rfl rfl rfl ?_   -- 7.4
        rw [bit0]
        refine V_sub [(0, _), (1, _), (2, _), (3, _), (4, _), (5, _), (6, _), (7, _), (19, _), (20, _), (21, _), (27, _)] ⟨rfl, rfl, rfl, rfl, rfl, rfl, rfl, rfl, rfl, rfl, rfl, rfl, trivial⟩ ?_
        refine V_nil (.inl rfl) ?_
        refine E_then ?_
        refine J_condB rfl (fun h3 => ?_) (fun h3 => ?_)   -- C2
        · skip
          refine J_draw (Gs := R) (cl := [.p, .r, .r, .p, .r, .p, .p, .r, .r, .r, .p, .p, .p, .p, .e, .p, .p, .p]) (by kernel_rfl) (fun _ _ h => h.sublist (by simp)) ?_
          refine V_mov (.s _ _ _) rfl rfl ?_   -- 8.0
          refine V_ld (.s _ _ _) Tryd.isAgg45 rfl (by repeat (first | exact List.Mem.head _ | assumption | apply List.Mem.tail | apply List.mem_append_right)) (by rfl) rfl ?_   -- 8.1
          refine V_ld (.s _ _ _) Tryd.isAgg3 rfl (by repeat (first | exact List.Mem.head _ | assumption | apply List.Mem.tail | apply List.mem_append_right)) (by rfl) rfl ?_   -- 8.2
          first | refine V_ix (.s _ _ _) Tryd.underlying45 Tryd.sizeOf34 rfl rfl (by omega) (by omega) rfl ?_ | refine V_ixz (.s _ _ _) Tryd.underlying45 Tryd.sizeOf34 rfl rfl (hm.rd.pl (by rw [hm.len]; omega)) (by omega) (by omega) rfl ?_ | refine V_ixz (.s _ _ _) Tryd.underlying45 Tryd.sizeOf34 rfl rfl (hrri.pl (by simp)) (by omega) (by omega) rfl ?_   -- 8.3
          refine V_ldz (.s _ _ _) Tryd.isAgg34 rfl hm.rd hrowi rfl ?_   -- 8.4
          refine V_mov (.s _ _ _) rfl rfl ?_   -- 8.5
          first | refine V_ix (.s _ _ _) Tryd.underlying34 Tryd.sizeOf3 rfl rfl (by omega) (by omega) rfl ?_ | refine V_ixz (.s _ _ _) Tryd.underlying34 Tryd.sizeOf3 rfl rfl (hm.rd.pl (by rw [hm.len]; omega)) (by omega) (by omega) rfl ?_ | refine V_ixz (.s _ _ _) Tryd.underlying34 Tryd.sizeOf3 rfl rfl (hrri.pl (by simp)) (by omega) (by omega) rfl ?_   -- 8.6
          refine V_ldz (.s _ _ _) Tryd.isAgg3 rfl hrri (I_getN (i := j) (by omega)) rfl ?_   -- 8.7
          have hcj := hcl j (by omega)
          refine V_ld (.s _ _ _) Tryd.isAgg106 rfl (by repeat (first | exact List.Mem.head _ | assumption | apply List.Mem.tail | apply List.mem_append_right)) (by rfl) rfl ?_   -- 8.8
          refine V_ld (.s _ _ _) Tryd.isAgg3 rfl (by repeat (first | exact List.Mem.head _ | assumption | apply List.Mem.tail | apply List.mem_append_right)) (by rfl) rfl ?_   -- 8.9
          refine V_mov (.s _ _ _) rfl rfl ?_   -- 8.10
          refine V_shl (.s _ _ _) rfl rfl (by omega) (by simp [IntKind.bits]; omega) (by rw [shl_nat]; exact wrap_nat (lt63 (Nat.pow_lt_pow_right (by decide) (show j < 10 by omega)) (Nat.le_refl _))) rfl ?_   -- 8.11
          rw [shl_nat]
          have hsj := or_lt hs (show j < d.length by omega)
          have hgt := or_gt (fol_not (fol_bit (s := s) (j := j) (notT (by assumption))))
          have hhl := home_lim hd.costs (by omega) (by omega) hsj (show j < d.length by omega)
          refine V_or (r := ((s ||| 2 ^ j : Nat) : Int)) (.s _ _ _) rfl rfl (bits_or (by omega) (lt63 (Nat.pow_lt_pow_right (by decide) (show j < 10 by omega)) (Nat.le_refl _))) rfl ?_   -- 8.12
          refine V_mov (.s _ _ _) rfl rfl ?_   -- 8.13
          refine V_callCE (post := fun v1 G' => ∃ es' clk', v1 = fP d (s ||| 2 ^ j, j) ∧ Memo kP (fP d) okP es' ∧ G' = .m b es' clk' :: R) (.s _ _ _) Tryd.call88 rfl (.cons rfl (.cons rfl .nil)) (fun w1 hw1 => by
            have h := ih (s ||| 2 ^ j) j hgt hsj (by omega) R es1 clk1 w1 (fun x hx => hx) hes1 hw1
            exact h.mono fun e w2 ⟨es', clk', he, hm, hs⟩ => ⟨_, _, he, hs, es', clk', rfl, hm, rfl⟩) rfl (by rintro v1 G' ⟨es', clk', _, _, rfl⟩ w0 w1 h; exact h.sublist (by simp)) ?_
          rintro v1 G' ⟨es2, clk2, rfl, hes2, rfl⟩
          refine V_add (p := (d.getD i []).getD j 0) (q := home d.length d (s ||| 2 ^ j) j) (.s _ _ _) rfl rfl (wrap_ok (by omega)) rfl ?_   -- 8.15
          refine V_min (.s _ _ _) rfl rfl rfl ?_   -- 8.16
          refine V_asg (.s _ _ _) rfl rfl ?_   -- 8.17
          refine V_sub [(0, _), (1, _), (2, _), (3, _), (4, _), (5, _), (6, _), (7, _), (19, _), (20, _), (21, _), (27, _)] ⟨rfl, rfl, rfl, rfl, rfl, rfl, rfl, rfl, rfl, rfl, rfl, rfl, trivial⟩ ?_
          refine V_nil (.inr ⟨_, rfl⟩) ?_
          refine E_blk ?_
          refine E_then ?_
          refine J_region ?_
          refine V_add (.n _) rfl rfl (wrap_ok (by omega)) rfl ?_   -- 9.0
          refine V_mov (.n _) rfl rfl ?_   -- 9.1
          refine V_sub [(0, _), (1, _), (2, _), (3, _), (4, _), (5, _), (6, _), (7, _), (19, _), (20, _), (21, _), (27, _)] ⟨rfl, rfl, rfl, rfl, rfl, rfl, rfl, rfl, rfl, rfl, rfl, rfl, trivial⟩ ?_
          refine V_nil (.inl rfl) ?_
          -- again L0 0
          refine E_again (X := Nat × List MapEntry × Nat) (KI := fun x => [(0, (.pointer (some ⟨b6, 0, none⟩))), (1, (.pointer (some ⟨bn, 0, none⟩))), (2, (.pointer (some ⟨bd, 0, none⟩))), (3, (.pointer (some ⟨b7, 0, none⟩))), (4, (.pointer (some ⟨bf, 0, none⟩))), (5, (.int .i64 (0))), (6, .int .i64 (hB d s i x.1)), (19, (.int .i64 (d.length : Nat))), (20, .int .i64 (x.1 : Nat))]) (GI := fun x => .m b x.2.1 x.2.2 :: R) (I := fun x => x.1 ≤ d.length ∧ Memo kP (fP d) okP x.2.1) (μ := fun x => d.length - x.1) (x := (j, es1, clk1)) ((j + 1, es2, clk2)) ?_ ?_ ?_ (fun w h => h)
          · show d.length - (j + 1) < d.length - j; omega
          · exact ⟨by dsimp only; omega, hes2⟩
          · refine ⟨?_, ?_, ?_, ?_, ?_, ?_, ?_, ?_, ?_, trivial⟩ <;> first | rfl | exact int_eq (hB_yes (notT (by assumption))).symm | exact int_eq (by dsimp only; omega)
        · skip
          refine J_skip ?_
          refine E_blk ?_
          refine E_then ?_
          refine J_region ?_
          refine V_add (.n _) rfl rfl (wrap_ok (by omega)) rfl ?_   -- 9.0
          refine V_mov (.n _) rfl rfl ?_   -- 9.1
          refine V_sub [(0, _), (1, _), (2, _), (3, _), (4, _), (5, _), (6, _), (7, _), (19, _), (20, _), (21, _), (27, _)] ⟨rfl, rfl, rfl, rfl, rfl, rfl, rfl, rfl, rfl, rfl, rfl, rfl, trivial⟩ ?_
          refine V_nil (.inl rfl) ?_
          -- again L0 1
          refine E_again (X := Nat × List MapEntry × Nat) (KI := fun x => [(0, (.pointer (some ⟨b6, 0, none⟩))), (1, (.pointer (some ⟨bn, 0, none⟩))), (2, (.pointer (some ⟨bd, 0, none⟩))), (3, (.pointer (some ⟨b7, 0, none⟩))), (4, (.pointer (some ⟨bf, 0, none⟩))), (5, (.int .i64 (0))), (6, .int .i64 (hB d s i x.1)), (19, (.int .i64 (d.length : Nat))), (20, .int .i64 (x.1 : Nat))]) (GI := fun x => .m b x.2.1 x.2.2 :: R) (I := fun x => x.1 ≤ d.length ∧ Memo kP (fP d) okP x.2.1) (μ := fun x => d.length - x.1) (x := (j, es1, clk1)) ((j + 1, es1, clk1)) ?_ ?_ ?_ (fun w h => h)
          · show d.length - (j + 1) < d.length - j; omega
          · exact ⟨by dsimp only; omega, hes1⟩
          · refine ⟨?_, ?_, ?_, ?_, ?_, ?_, ?_, ?_, ?_, trivial⟩ <;> first | rfl | exact int_eq (hB_no (notF (by assumption))).symm | exact int_eq (by dsimp only; omega)
      · skip
        refine J_exit ?_
        refine E_then_exit ?_
        refine E_lp_exit ?_
        refine E_blk_hit ?_
        refine E_then ?_
        refine J_seq ?_
        refine J_region ?_
        refine V_mov (.n _) rfl rfl ?_   -- 10.0
        refine V_asg (.n _) rfl rfl ?_   -- 10.1
        refine V_sub [(0, _), (1, _), (2, _), (3, _), (4, _), (5, _), (6, _), (19, _), (20, _), (21, _)] ⟨rfl, rfl, rfl, rfl, rfl, rfl, rfl, rfl, rfl, rfl, trivial⟩ ?_
        refine V_nil (.inl rfl) ?_
        refine E_then ?_
        refine J_ret ?_
        -- return R1
        refine E_ret1 Tryd.results90 rfl (fun w hw => ?_)
        obtain rfl : j = d.length := by omega
        exact ⟨es1, clk1, by rw [fP, ← home_at hs (by omega)]; rfl, hes1, hw⟩

theorem homefind_one (w0 : World) (A : Option Addr) (c : Nat) (vs : List Value) (d : Rows2) (hd : DP d) (hm : Mx w0 A vs d) (bm bn bd bf b s i : Nat) (hs : s < 2 ^ d.length) (hi : i < d.length) (R : List Ent) (hE : HE A c d bm bn bd bf b R)
    (ih : ∀ (s' i' : Nat), s < s' → s' < 2 ^ d.length → i' < d.length → ∀ (R' : List Ent) (es : List MapEntry) (clk : Nat) (w : World), (∀ x ∈ R, x ∈ R') → Memo kP (fP d) okP es → St w0 (.m b es clk :: R') w →
      Calls Tryd.prog 88 #[.int .i64 (s' : Nat), .int .i64 (i' : Nat), .pointer (some ⟨bm, 0, none⟩), .pointer (some ⟨bn, 0, none⟩), .pointer (some ⟨bd, 0, none⟩), .pointer (some ⟨bf, 0, none⟩)] w fun e w' => ∃ es' clk', e = .returned (fP d (s', i')) ∧ Memo kP (fP d) okP es' ∧ St w0 (.m b es' clk' :: R') w')
    (es : List MapEntry) (clk : Nat) (w : World) (hes : Memo kP (fP d) okP es) (hst : St w0 (.m b es clk :: R) w) :
    Calls Tryd.prog 88 #[.int .i64 (s : Nat), .int .i64 (i : Nat), .pointer (some ⟨bm, 0, none⟩), .pointer (some ⟨bn, 0, none⟩), .pointer (some ⟨bd, 0, none⟩), .pointer (some ⟨bf, 0, none⟩)] w fun e w' => ∃ es' clk', e = .returned (fP d (s, i)) ∧ Memo kP (fP d) okP es' ∧ St w0 (.m b es' clk' :: R) w' := by
  have hEm := hE.m
  have h9 := hd.n9
  have hp10 := pow_few (show d.length ≤ 10 by omega)
  refine calls (args := [.int .i64 (s : Nat), .int .i64 (i : Nat), .pointer (some ⟨bm, 0, none⟩), .pointer (some ⟨bn, 0, none⟩), .pointer (some ⟨bd, 0, none⟩), .pointer (some ⟨bf, 0, none⟩)]) Tryd.func88 rfl Tryd.ntmps88 (Nat.le_of_ble_eq_true rfl) hst ?_
  refine J_seq ?_
  refine J_region ?_
  refine V_box (.n _) rfl rfl rfl (fun _ => trivial) (fun b6 => ?_)   -- 0.0
  refine V_box (.n _) rfl rfl rfl (fun _ => trivial) (fun b7 => ?_)   -- 0.1
  refine V_asg (.n _) rfl rfl ?_   -- 0.2
  refine V_sub [(0, _), (1, _), (2, _), (3, _), (4, _), (5, _), (6, _), (7, _), (8, _)] ⟨rfl, rfl, rfl, rfl, rfl, rfl, rfl, rfl, rfl, trivial⟩ ?_
  refine V_nil (.inl rfl) ?_
  refine E_then ?_
  refine J_seq ?_
  refine J_region ?_
  refine V_ldN (vs := [.map (some b)]) (.n _) Tryd.isAgg109 Tryd.sizeOf109 rfl (by repeat (first | exact List.Mem.head _ | assumption | apply List.Mem.tail | apply List.mem_append_right)) rfl rfl rfl ?_   -- 1.0
  refine V_ld (.n _) Tryd.isAgg3 rfl (by repeat (first | exact List.Mem.head _ | assumption | apply List.Mem.tail | apply List.mem_append_right)) (by rfl) rfl ?_   -- 1.1
  refine V_ld (.n _) Tryd.isAgg3 rfl (by repeat (first | exact List.Mem.head _ | assumption | apply List.Mem.tail | apply List.mem_append_right)) (by rfl) rfl ?_   -- 1.2
  refine V_build (zs := [.int .i64 0, .int .i64 0]) (pl := [(0, 1), (1, 1)]) (.n _) (Pls.struct Tryd.underlying112 Tryd.zeroValue112 rfl rfl (by intro i f x hf hx; match i, hf, hx with | 0, hf, hx => (cases hf; cases hx; exact ⟨rfl, Tryd.sizeOf3⟩) | 1, hf, hx => (cases hf; cases hx; exact ⟨rfl, Tryd.sizeOf3⟩))) (.cons rfl rfl rfl rfl rfl (.cons .z .nil) (.cons rfl rfl rfl rfl rfl (.cons (.s .z) .nil) .nil)) rfl ?_   -- 1.3
  refine V_mkf (.n _) (.cons rfl (.cons rfl (.cons rfl (.cons rfl (.cons rfl .nil))))) rfl ?_   -- 1.4
  refine V_callW (post := fun v1 G' => ∃ es' clk', v1 = fP d (s, i) ∧ Memo kP (fP d) okP es' ∧ G' = .m b es' clk' :: .c b7 3 [.int .i64 (i : Nat)] :: .c b6 3 [.int .i64 (s : Nat)] :: R) (.n _) Tryd.call89 (.cons rfl (.cons rfl (.cons rfl .nil))) (fun w1 hw1 => by
    have h := placeof_spec d w0 (s, i) b _ (.c b7 3 [.int .i64 (i : Nat)] :: .c b6 3 [.int .i64 (s : Nat)] :: R) ⟨by show s < 1024; omega, by show i < 16; omega⟩ (fun R' es clk w hsub hes hst => homebody_spec w0 A c vs d hd hm bm bn bd bf b b6 b7 s i hs hi R' (hE.mono (fun x hx => hsub x (List.mem_cons_of_mem _ (List.mem_cons_of_mem _ hx)))) (hsub _ (.tail _ (.head _))) (hsub _ (.head _)) (fun s' i' h1 h2 h3 R'' es clk w hs2 => ih s' i' h1 h2 h3 R'' es clk w (fun x hx => hs2 x (hsub x (List.mem_cons_of_mem _ (List.mem_cons_of_mem _ hx))))) es clk w hes hst) es clk w1 hes (hw1.perm (List.perm_middle (l₁ := [_, _])).symm)
    exact h.mono fun e w2 ⟨es', clk', he, hm, hs⟩ => ⟨_, _, he, hs, es', clk', rfl, hm, rfl⟩) rfl ?_
  rintro v1 G' ⟨es2, clk2, rfl, hes2, rfl⟩
  refine V_asg (.n _) rfl rfl ?_   -- 1.6
  refine V_sub [(0, _), (1, _), (2, _), (3, _), (4, _), (5, _), (6, _), (7, _), (8, _)] ⟨rfl, rfl, rfl, rfl, rfl, rfl, rfl, rfl, rfl, trivial⟩ ?_
  refine V_nil (.inl rfl) ?_
  refine E_then ?_
  refine J_ret ?_
  -- return R0
  refine E_ret1 Tryd.results88 rfl (fun w hw => ?_)
  exact ⟨es2, clk2, rfl, hes2, hw.sublist ((((List.Sublist.refl _).cons _).cons _).cons_cons _)⟩

theorem homefind_spec (w0 : World) (A : Option Addr) (c : Nat) (vs : List Value) (d : Rows2) (hd : DP d) (hm : Mx w0 A vs d) (bm bn bd bf b : Nat) : ∀ (k s i : Nat), s + k + 1 = 2 ^ d.length → i < d.length → ∀ (R : List Ent) (es : List MapEntry) (clk : Nat) (w : World), HE A c d bm bn bd bf b R → Memo kP (fP d) okP es → St w0 (.m b es clk :: R) w →
    Calls Tryd.prog 88 #[.int .i64 (s : Nat), .int .i64 (i : Nat), .pointer (some ⟨bm, 0, none⟩), .pointer (some ⟨bn, 0, none⟩), .pointer (some ⟨bd, 0, none⟩), .pointer (some ⟨bf, 0, none⟩)] w fun e w' => ∃ es' clk', e = .returned (fP d (s, i)) ∧ Memo kP (fP d) okP es' ∧ St w0 (.m b es' clk' :: R) w' := by
  intro k
  induction k using Nat.strongRecOn with
  | _ k ih =>
    intro s i hk hi R es clk w hE hes hst
    exact homefind_one w0 A c vs d hd hm bm bn bd bf b s i (by omega) hi R hE (fun s' i' h1 h2 h3 R' es clk w hsub => ih (2 ^ d.length - s' - 1) (by omega) s' i' (by omega) h3 R' es clk w (hE.mono hsub)) es clk w hes hst

end Go.Proofs.YtgeahmmepfmcoaaDoor
