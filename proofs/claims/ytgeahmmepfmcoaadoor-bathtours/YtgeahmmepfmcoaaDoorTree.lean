/- parts that the proof of BathTours uses -/
import Derived.Test.YtgeahmmepfmcoaaDoorSort
namespace Go.Proofs.YtgeahmmepfmcoaaDoor
open Go Go.RowKit L
set_option linter.unusedVariables false
set_option linter.unusedSimpArgs false

def f0 (q : Nat) : Int := if q = 1 then 0 else 1099511627776
theorem near0 {n : Nat} (h : 3 ≤ n) : (I (List.replicate n 1099511627776)).set 1 (.int .i64 0) = I (mkT n f0) := by
  have e : List.replicate n (1099511627776 : Int) = mkT n (fun _ => 1099511627776) := by
    apply List.ext_getElem
    · rw [mkT_length]; simp
    · intro i h1 h2; simp [mkT]
  rw [e, I_set, mkT_set]; rfl
def rlx (w : Nat → Nat → Int) (f : Nat → Int) (s v i : Nat) (q : Nat) : Int := if 1 ≤ q ∧ q < i ∧ s.testBit q = false then min (f q) (w v q) else f q
theorem rlx_start {w : Nat → Nat → Int} {f : Nat → Int} {n s v : Nat} : mkT n f = mkT n (rlx w f s v 1) := mkT_congr fun q hq => by
  unfold rlx; rw [if_neg (by omega)]
theorem rlx_skip {w : Nat → Nat → Int} {f : Nat → Int} {n s v i : Nat} (h : s.testBit i = true) : mkT n (rlx w f s v i) = mkT n (rlx w f s v (i + 1)) := mkT_congr fun q hq => by
  unfold rlx
  by_cases e : q = i
  · subst e; rw [if_neg (by omega), if_neg (by rw [h]; simp)]
  · by_cases h1 : 1 ≤ q ∧ q < i ∧ s.testBit q = false
    · rw [if_pos h1, if_pos ⟨h1.1, by omega, h1.2.2⟩]
    · rw [if_neg h1, if_neg (fun hh => h1 ⟨hh.1, by omega, hh.2.2⟩)]
theorem rlx_at {w : Nat → Nat → Int} {f : Nat → Int} {n s v i : Nat} (hi : i < n) : (mkT n (rlx w f s v i)).getD i 0 = f i := by
  rw [mkT_get hi]; unfold rlx; rw [if_neg (by omega)]
theorem rlx_take {w : Nat → Nat → Int} {f : Nat → Int} {n s v i : Nat} (h1 : 1 ≤ i) (h : s.testBit i = false) : (I (mkT n (rlx w f s v i))).set i (.int .i64 (min (f i) (w v i))) = I (mkT n (rlx w f s v (i + 1))) := by
  rw [I_set, mkT_set]
  congr 1
  refine mkT_congr fun q hq => ?_
  unfold rlx
  by_cases e : q = i
  · subst e; rw [if_pos rfl, if_pos ⟨h1, by omega, h⟩]
  · rw [if_neg e]
    by_cases h2 : 1 ≤ q ∧ q < i ∧ s.testBit q = false
    · rw [if_pos h2, if_pos ⟨h2.1, by omega, h2.2.2⟩]
    · rw [if_neg h2, if_neg (fun hh => h2 ⟨hh.1, by omega, hh.2.2⟩)]
def NearP (n : Nat) (w : Nat → Nat → Int) (s : Nat) (f : Nat → Int) : Prop := ∀ q, inV n q → s.testBit q = false → (∃ u, inV n u ∧ s.testBit u = true ∧ f q = w u q) ∧ ∀ u, inV n u → s.testBit u = true → f q ≤ w u q
def GrB (n : Nat) (w : Nat → Nat → Int) (k s : Nat) (acc : Int) (f : Nat → Int) : Prop := (k = 0 ∧ s = 1 ∧ acc = 0 ∧ f = f0) ∨ ∃ k', k = k' + 1 ∧ Gr n w s k' acc ∧ NearP n w s f
structure Sel (s : Nat) (f : Nat → Int) (i : Nat) (nx : Int) : Prop where
  ex : (nx = -1 ∧ ∀ q, 1 ≤ q → q < i → s.testBit q = true) ∨ ∃ v : Nat, nx = v ∧ 1 ≤ v ∧ v < i ∧ s.testBit v = false ∧ ∀ q, 1 ≤ q → q < i → s.testBit q = false → f v ≤ f q
theorem Sel.zero {s : Nat} {f : Nat → Int} : Sel s f 1 (-1) := ⟨.inl ⟨rfl, fun q h1 h2 => by omega⟩⟩
theorem Sel.inn {s i : Nat} {f : Nat → Int} {nx : Int} (h : Sel s f i nx) (hs : s.testBit i = true) : Sel s f (i + 1) nx := by
  rcases h.ex with ⟨h1, h2⟩ | ⟨v, h1, h2, h3, h4, h5⟩
  · refine ⟨.inl ⟨h1, fun q q1 q2 => ?_⟩⟩
    by_cases e : q = i
    · subst e; exact hs
    · exact h2 q q1 (by omega)
  · refine ⟨.inr ⟨v, h1, h2, by omega, h4, fun q q1 q2 q3 => ?_⟩⟩
    by_cases e : q = i
    · subst e; rw [hs] at q3; simp at q3
    · exact h5 q q1 (by omega) q3
theorem Sel.first {s i : Nat} {f : Nat → Int} {nx : Int} (h : Sel s f i nx) (hi : 1 ≤ i) (hs : s.testBit i = false) (hn : nx < 0) : Sel s f (i + 1) (i : Int) := by
  rcases h.ex with ⟨h1, h2⟩ | ⟨v, h1, h2, h3, h4, h5⟩
  · refine ⟨.inr ⟨i, rfl, hi, by omega, hs, fun q q1 q2 q3 => ?_⟩⟩
    by_cases e : q = i
    · subst e; exact Int.le_refl _
    · rw [h2 q q1 (by omega)] at q3; simp at q3
  · omega
theorem Sel.val {s i : Nat} {f : Nat → Int} {nx : Int} (h : Sel s f i nx) (hn : ¬ nx < 0) : ∃ v : Nat, nx = v ∧ 1 ≤ v ∧ v < i := by
  rcases h.ex with ⟨h1, h2⟩ | ⟨v, h1, h2, h3, h4, h5⟩
  · omega
  · exact ⟨v, h1, h2, h3⟩
theorem Sel.less {s i v : Nat} {f : Nat → Int} {nx : Int} (h : Sel s f i nx) (hi : 1 ≤ i) (hs : s.testBit i = false) (hv : nx = (v : Int)) (hlt : f i < f v) : Sel s f (i + 1) (i : Int) := by
  rcases h.ex with ⟨h1, h2⟩ | ⟨v', h1, h2, h3, h4, h5⟩
  · omega
  · obtain rfl : v' = v := by omega
    refine ⟨.inr ⟨i, rfl, hi, by omega, hs, fun q q1 q2 q3 => ?_⟩⟩
    by_cases e : q = i
    · subst e; exact Int.le_refl _
    · have := h5 q q1 (by omega) q3; omega
theorem Sel.more {s i v : Nat} {f : Nat → Int} {nx : Int} (h : Sel s f i nx) (hv : nx = (v : Int)) (hge : ¬ f i < f v) : Sel s f (i + 1) nx := by
  rcases h.ex with ⟨h1, h2⟩ | ⟨v', h1, h2, h3, h4, h5⟩
  · omega
  · obtain rfl : v' = v := by omega
    refine ⟨.inr ⟨v', h1, h2, by omega, h4, fun q q1 q2 q3 => ?_⟩⟩
    by_cases e : q = i
    · subst e; omega
    · exact h5 q q1 (by omega) q3
theorem GrB.zero {n : Nat} {w : Nat → Nat → Int} : GrB n w 0 1 0 f0 := .inl ⟨rfl, rfl, rfl, rfl⟩
theorem GrB.sel {n : Nat} {w : Nat → Nat → Int} {k s i : Nat} {acc nx : Int} {f : Nat → Int} (h : GrB n w k s acc f) (h3 : 3 ≤ n) (hk : k + 1 < n) (hi : n ≤ i) (hS : Sel s f i nx) (hin : i ≤ n) : ∃ v : Nat, nx = v ∧ inV n v ∧ s.testBit v = false ∧ ∀ q, inV n q → s.testBit q = false → f v ≤ f q := by
  obtain rfl : i = n := by omega
  rcases hS.ex with ⟨h1, h2⟩ | ⟨v, h1, h2, h3, h4, h5⟩
  · exfalso
    rcases h with ⟨_, rfl, _, _⟩ | ⟨k', rfl, hG, _⟩
    · exact absurd (h2 1 (by omega) (by omega)) (by decide)
    · obtain ⟨j, hj, hf⟩ := free hG.lt (hG.ne (by omega))
      have hb := fol_not hf
      by_cases e : 1 ≤ j
      · rw [h2 j e hj] at hb; simp at hb
      · obtain rfl : j = 0 := by omega
        rw [hG.b0] at hb; simp at hb
  · exact ⟨v, h1, ⟨h2, h3⟩, h4, fun q hq hs => h5 q hq.1 hq.2 hs⟩
theorem GrB.next {n : Nat} {w : Nat → Nat → Int} {k s v : Nat} {acc : Int} {f : Nat → Int} (h : GrB n w k s acc f) (h3 : 3 ≤ n) (hv : inV n v) (hsv : s.testBit v = false) (hmin : ∀ q, inV n q → s.testBit q = false → f v ≤ f q) (hw : ∀ a b, a < n → b < n → -20000 ≤ w a b ∧ w a b ≤ 21000) :
    GrB n w (k + 1) (s ||| 2 ^ v) (acc + f v) (rlx w f (s ||| 2 ^ v) v n) ∧ -20000 ≤ f v ∧ f v ≤ 21000 := by
  have hr : ∀ q, inV n q → (s ||| 2 ^ v).testBit q = false → rlx w f (s ||| 2 ^ v) v n q = min (f q) (w v q) := fun q hq hs => by
    unfold rlx; rw [if_pos ⟨hq.1, hq.2, hs⟩]
  have hold : ∀ q, (s ||| 2 ^ v).testBit q = false → s.testBit q = false ∧ q ≠ v := fun q hq => by
    rw [or_bit, Bool.or_eq_false_iff, decide_eq_false_iff_not] at hq
    exact ⟨hq.1, fun e => hq.2 e.symm⟩
  rcases h with ⟨rfl, rfl, rfl, rfl⟩ | ⟨k', rfl, hG, hN⟩
  · have h1 := hmin 1 ⟨by omega, by omega⟩ (by decide)
    have e1 : v = 1 := by
      refine Classical.byContradiction fun e => ?_
      unfold f0 at h1
      rw [if_neg e, if_pos rfl] at h1
      omega
    subst e1
    have e2 : f0 1 = 0 := rfl
    refine ⟨.inr ⟨0, rfl, ?_, fun q hq hs => ?_⟩, by omega, by omega⟩
    · rw [e2]; exact Gr.zero h3
    · obtain ⟨h4, h5⟩ := hold q hs
      have hb := hw 1 q (by omega) hq.2
      have e3 : rlx w f0 (1 ||| 2 ^ 1) 1 n q = w 1 q := by
        rw [hr q hq hs]
        unfold f0
        rw [if_neg h5]; omega
      rw [e3]
      refine ⟨⟨1, hv, by decide, rfl⟩, fun u hu hsu => ?_⟩
      rw [or_bit, Bool.or_eq_true, decide_eq_true_eq] at hsu
      rcases hsu with h6 | h6
      · rw [show (1 : Nat) = 2 ^ 0 from rfl, Nat.testBit_two_pow] at h6
        have := hu.1
        simp at h6; omega
      · subst h6; exact Int.le_refl _
  · obtain ⟨⟨u, hu, hsu, hfu⟩, hle⟩ := hN v hv hsv
    have hb := hw u v hu.2 hv.2
    refine ⟨.inr ⟨k' + 1, rfl, ?_, fun q hq hs => ?_⟩, by omega, by omega⟩
    · rw [hfu]
      exact hG.next hu hv hsu hsv (fun a b ha hb' h1 h2 => by
        rw [← hfu]
        have := hmin b hb' h2
        have := (hN b hb' h2).2 a ha h1
        omega) hb
    · obtain ⟨h4, h5⟩ := hold q hs
      rw [hr q hq hs]
      obtain ⟨⟨u2, hu2, hsu2, hfu2⟩, hle2⟩ := hN q hq h4
      refine ⟨?_, fun x hx hsx => ?_⟩
      · by_cases hc : f q ≤ w v q
        · exact ⟨u2, hu2, by rw [or_bit, hsu2]; rfl, by omega⟩
        · exact ⟨v, hv, by rw [or_bit]; simp, by omega⟩
      · rw [or_bit, Bool.or_eq_true, decide_eq_true_eq] at hsx
        rcases hsx with h6 | h6
        · have := hle2 x hx h6; omega
        · subst h6; omega
theorem GrB.full {d : Rows2} {pi : List Int} {s k : Nat} {acc : Int} {f : Nat → Int} (hd : DP d) (h : GrB d.length (wt d pi) k s acc f) (hk : k + 1 = d.length) : treeT d pi = acc := by
  have h3 := hd.n3
  rcases h with ⟨rfl, _⟩ | ⟨k', rfl, hG, _⟩
  · omega
  · exact hG.full hd (by omega)
theorem GrB.bd {n : Nat} {w : Nat → Nat → Int} {k s : Nat} {acc : Int} {f : Nat → Int} (h : GrB n w k s acc f) : -20000 * (k : Int) ≤ acc ∧ acc ≤ 21000 * (k : Int) := by
  rcases h with ⟨rfl, _, rfl, _⟩ | ⟨k', rfl, hG, _⟩
  · omega
  · have := hG.lo; have := hG.hi; omega
@[simp] theorem zsT_length (d : Rows2) (pi : List Int) (k : Nat) : (zsT d pi k).length = k := by simp [zsT]
theorem zsT_own (d : Rows2) (pi : List Int) (k : Nat) : I (zsT d pi k) ++ I [wt d pi 0 (k + 1)] = I (zsT d pi (k + 1)) := by rw [zsT_next]; simp [I]
theorem own_far {t z : TypeId} {A : Option Addr} {l c : Nat} {cs : List Value} {x : Ent} (h : Own t z (.slice A l c) l cs x) (hl : 0 < l) : ∃ b pre sp, A = some ⟨b, pre.length, none⟩ ∧ x = .c b t (pre ++ cs ++ sp) := by
  rcases h with ⟨A', e, rfl, _⟩ | ⟨b, off, pre, sp, cap, e, h1, h2, h3, h4, h5⟩
  · omega
  · cases e
    exact ⟨b, pre, sp, by rw [h2], h1⟩
theorem sorted_zs {d : Rows2} {pi : List Int} {k : Nat} {ys : List Int} (hk : 2 ≤ k) (hp : ys.Perm (zsT d pi k)) (hs : SrtTo ys k) (hb : ∀ j, j < k → wt d pi 0 (j + 1) < far2) : ys.getD 0 0 + ys.getD 1 0 = (twoK d pi k).1 + (twoK d pi k).2 := by
  have hl : ys.length = k := by rw [hp.length_eq, zsT_length]
  have h1 := sorted_two hl hk hs (fun j => by
    by_cases hj : j < ys.length
    · have hm : ys.getD j 0 ∈ zsT d pi k := hp.mem_iff.1 (getD_mem hj)
      obtain ⟨i, hi, e⟩ := List.mem_map.1 hm
      rw [← e]; exact hb i (List.mem_range.1 hi)
    · rw [List.getD_eq_getElem?_getD, List.getElem?_eq_none (by omega)]; decide)
  unfold twoK
  rw [← twoL_perm hp, h1]
theorem zs_bd {d : Rows2} {pi : List Int} (hd : DP d) (hp : ∀ j, -10000 ≤ pi.getD j 0 ∧ pi.getD j 0 ≤ 10000) {k : Nat} (hk : k + 1 ≤ d.length) {ys : List Int} (h : ys.Perm (zsT d pi k)) (j : Nat) (hj : j < k) : -20000 ≤ ys.getD j 0 ∧ ys.getD j 0 ≤ 21000 := by
  have hl : ys.length = k := by rw [h.length_eq, zsT_length]
  have hm : ys.getD j 0 ∈ zsT d pi k := h.mem_iff.1 (getD_mem (by omega))
  obtain ⟨i, hi, e⟩ := List.mem_map.1 hm
  have hi := List.mem_range.1 hi
  rw [← e]; exact wt_bd hd hp (by omega) (by omega)

theorem Tree_spec (w : World) (A : Option Addr) (c : Nat) (vs : List Value) (d : Rows2) (hl : d.length ≤ 140737488351232) (hm : Mx w A vs d) (hlr : ∀ r ∈ d, r.length ≤ 140737488351232) (AP : Option Addr) (cP : Nat) (pi : List Int) (hlp : pi.length ≤ 140737488351232) (hr : Rd w AP (I pi)) : Calls Tryd.prog 46 #[.slice A d.length c, .slice AP pi.length cP] w fun e w' => e = .returned (.tuple #[.int .i64 (treeR d pi).1, .int .i64 (treeR d pi).2]) ∧ St w [] w' := by
  refine calls (args := [.slice A d.length c, .slice AP pi.length cP]) Tryd.func46 rfl Tryd.ntmps46 (Nat.le_of_ble_eq_true rfl) (St.refl w) ?_
  refine J_seq ?_
  refine J_region ?_
  refine V_asg (.n _) rfl rfl ?_   -- 0.0
  refine V_asg (.n _) rfl rfl ?_   -- 0.1
  refine V_sub [(0, _), (1, _), (4, _), (5, _)] ⟨rfl, rfl, rfl, rfl, trivial⟩ ?_
  refine V_nil (.inl rfl) ?_
  refine E_then ?_
  refine J_seq ?_
  refine J_block ?_
  refine J_seq ?_
  refine J_region ?_
  refine V_mov (.n _) rfl rfl ?_   -- 1.0
  refine V_call0 (.n _) Tryd.call86 (.cons rfl .nil) (fun w1 hw1 => dist_spec w1 A c vs d hl (hm.keep hw1) hlr) rfl trivial ?_   -- 1.1
  refine V_notB (.n _) rfl rfl ?_   -- 1.2
  refine V_asg (.n _) rfl rfl ?_   -- 1.3
  refine V_sub [(0, _), (1, _), (4, _), (5, _), (17, _)] ⟨rfl, rfl, rfl, rfl, rfl, trivial⟩ ?_
  refine V_nil (.inl rfl) ?_
  refine E_then ?_
  refine J_condB rfl (fun h1 => ?_) (fun h1 => ?_)   -- C0
  · skip
    refine J_seq ?_
    refine J_region ?_
    refine V_asg (.n _) rfl rfl ?_   -- 2.0
    refine V_asg (.n _) rfl rfl ?_   -- 2.1
    refine V_sub [(0, _), (1, _), (4, _), (5, _), (17, _)] ⟨rfl, rfl, rfl, rfl, rfl, trivial⟩ ?_
    refine V_nil (.inl rfl) ?_
    refine E_then ?_
    refine J_ret ?_
    refine E_blk_ret ?_
    refine E_then_ret ?_
    -- return R0
    refine E_ret2 Tryd.results46 rfl rfl (fun w hw => ?_)
    exact ⟨by rw [treeR_a (by simpa using ‹(!distP d) = true›)], hw⟩
  · have hd : DP d := distP_iff.1 (by simpa using h1)
    have h9 := hd.n9
    have hn3 := hd.n3
    refine J_seq ?_
    refine J_region ?_
    refine V_mov (.n _) rfl rfl ?_   -- 3.0
    refine V_len (.n _) Tryd.underlying34 rfl rfl ?_   -- 3.1
    refine V_mov (.n _) rfl rfl ?_   -- 3.2
    refine V_len (.n _) Tryd.underlying45 rfl rfl ?_   -- 3.3
    refine V_neq (.n _) rfl rfl rfl ?_   -- 3.4
    refine V_asg (.n _) rfl rfl ?_   -- 3.5
    refine V_sub [(0, _), (1, _), (4, _), (5, _), (17, _), (21, _)] ⟨rfl, rfl, rfl, rfl, rfl, rfl, trivial⟩ ?_
    refine V_nil (.inl rfl) ?_
    refine E_then ?_
    refine J_cond rfl (fun h2 => ?_) (fun h2 => ?_)   -- C1
    · skip
      refine J_seq ?_
      refine J_region ?_
      refine V_asg (.n _) rfl rfl ?_   -- 4.0
      refine V_asg (.n _) rfl rfl ?_   -- 4.1
      refine V_sub [(0, _), (1, _), (4, _), (5, _), (17, _), (21, _)] ⟨rfl, rfl, rfl, rfl, rfl, rfl, trivial⟩ ?_
      refine V_nil (.inl rfl) ?_
      refine E_then ?_
      refine J_ret ?_
      refine E_blk_ret ?_
      refine E_then_ret ?_
      -- return R1
      refine E_ret2 Tryd.results46 rfl rfl (fun w hw => ?_)
      exact ⟨by rw [treeR_b hd (by omega)], hw⟩
    · obtain ⟨n1, hn1⟩ : ∃ n1, pi.length = n1 + 1 := ⟨pi.length - 1, by omega⟩
      have hpl : pi.length = d.length := by omega
      refine J_seq ?_
      refine J_region ?_
      refine V_mov (.n _) rfl rfl ?_   -- 5.0
      refine V_call0 (v := .int .i64 (mn pi n1)) (.n _) Tryd.call92 (.cons rfl .nil) (fun w1 hw1 => mnS_spec w1 AP cP pi n1 hn1 hlp (hr.keep hw1)) rfl trivial ?_   -- 5.1
      refine V_lss (.n _) rfl rfl rfl ?_   -- 5.2
      refine V_mov (.n _) rfl rfl ?_   -- 5.3
      refine V_split 31 rfl (fun h3 => ?_) (fun h3 => ?_)   -- guard 5.3
      · skip
        refine V_pass (.n .p) (3, false) rfl rfl ?_   -- 5.4
        refine V_pass (.n .p) (3, false) rfl rfl ?_   -- 5.5
        refine V_pass (.n .p) (3, false) rfl rfl ?_   -- 5.6
        refine V_pickT (.n _) rfl rfl rfl ?_   -- 5.7
        refine V_asg (.n _) rfl rfl ?_   -- 5.8
        refine V_sub [(0, _), (1, _), (4, _), (5, _), (17, _), (21, _), (27, _)] ⟨rfl, rfl, rfl, rfl, rfl, rfl, rfl, trivial⟩ ?_
        refine V_nil (.inl rfl) ?_
        refine E_then ?_
        refine J_condT rfl ?_
        refine J_seq ?_
        refine J_region ?_
        refine V_asg (.n _) rfl rfl ?_   -- 6.0
        refine V_asg (.n _) rfl rfl ?_   -- 6.1
        refine V_sub [(0, _), (1, _), (4, _), (5, _), (17, _), (21, _), (27, _)] ⟨rfl, rfl, rfl, rfl, rfl, rfl, rfl, trivial⟩ ?_
        refine V_nil (.inl rfl) ?_
        refine E_then ?_
        refine J_ret ?_
        refine E_blk_ret ?_
        refine E_then_ret ?_
        -- return R2
        refine E_ret2 Tryd.results46 rfl rfl (fun w hw => ?_)
        exact ⟨by rw [treeR_c hd (by omega) (piB_mn hn1 (by omega))], hw⟩
      · skip
        refine V_go (3, false) rfl ?_
        refine V_mov (.n _) rfl rfl ?_   -- 5.4
        refine V_go (3, false) rfl ?_
        refine V_call0 (v := .int .i64 (mx pi n1)) (.n _) Tryd.call93 (.cons rfl .nil) (fun w1 hw1 => mxS_spec w1 AP cP pi n1 hn1 hlp (hr.keep hw1)) rfl trivial ?_   -- 5.5
        refine V_go (3, false) rfl ?_
        refine V_gtr (.n _) rfl rfl rfl ?_   -- 5.6
        refine V_pickF (.n _) rfl rfl rfl ?_   -- 5.7
        refine V_asg (.n _) rfl rfl ?_   -- 5.8
        refine V_sub [(0, _), (1, _), (4, _), (5, _), (17, _), (21, _), (27, _)] ⟨rfl, rfl, rfl, rfl, rfl, rfl, rfl, trivial⟩ ?_
        refine V_nil (.inl rfl) ?_
        refine E_then ?_
        refine J_cond rfl (fun h4 => ?_) (fun h4 => ?_)   -- C2
        · skip
          refine J_seq ?_
          refine J_region ?_
          refine V_asg (.n _) rfl rfl ?_   -- 6.0
          refine V_asg (.n _) rfl rfl ?_   -- 6.1
          refine V_sub [(0, _), (1, _), (4, _), (5, _), (17, _), (21, _), (27, _)] ⟨rfl, rfl, rfl, rfl, rfl, rfl, rfl, trivial⟩ ?_
          refine V_nil (.inl rfl) ?_
          refine E_then ?_
          refine J_ret ?_
          refine E_blk_ret ?_
          refine E_then_ret ?_
          -- return R3
          refine E_ret2 Tryd.results46 rfl rfl (fun w hw => ?_)
          exact ⟨by rw [treeR_c hd (by omega) (piB_mx hn1 (by omega))], hw⟩
        · skip
          refine J_skip ?_
          refine E_blk ?_
          refine E_then ?_
          refine J_seq ?_
          refine J_region ?_
          refine V_mov (.n _) rfl rfl ?_   -- 7.0
          refine V_len (.n _) Tryd.underlying45 rfl rfl ?_   -- 7.1
          refine V_asg (.n _) rfl rfl ?_   -- 7.2
          refine V_asg (.n _) rfl rfl ?_   -- 7.3
          refine V_sub [(0, _), (1, _), (4, _), (5, _), (6, _), (7, _), (17, _), (21, _), (27, _)] ⟨rfl, rfl, rfl, rfl, rfl, rfl, rfl, rfl, rfl, trivial⟩ ?_
          refine V_nil (.inl rfl) ?_
          refine E_then ?_
          refine J_seq ?_
          refine J_region ?_
          refine V_lit (.n _) Tryd.underlying34 Tryd.sizeOf3 Tryd.zeroValue3 (.cons rfl rfl rfl .nil) rfl rfl rfl (fun _ => trivial) (fun b38 => ?_)   -- 8.0
          refine V_mov (.n _) rfl rfl ?_   -- 8.1
          refine V_call (post := fun v D => ∃ b, v = .slice (some ⟨b, 0, none⟩) d.length d.length ∧ D = [.c b 3 (I (List.replicate d.length 1099511627776))]) (.n _) Tryd.call94 (.cons rfl (.cons rfl .nil)) (fun w1 hw1 => (repeat_spec w1 (some ⟨b38, 0, none⟩) 1 d.length 1099511627776 (by omega) (by omega) (Rd.own hw1 (t := 3) (List.Mem.head _))).mono fun e w2 ⟨x, D, he, hD, b, h1, h2⟩ => ⟨x, D, he, hD, b, h1, h2⟩) rfl trivial ?_
          rintro _ _ ⟨bN, rfl, rfl⟩
          refine V_asg (.n _) rfl rfl ?_   -- 8.3
          refine V_sub [(0, _), (1, _), (4, _), (5, _), (6, _), (7, _), (8, _), (17, _), (21, _), (27, _)] ⟨rfl, rfl, rfl, rfl, rfl, rfl, rfl, rfl, rfl, rfl, trivial⟩ ?_
          refine V_nil (.inl rfl) ?_
          refine E_then ?_
          refine J_seq ?_
          refine J_region ?_
          refine V_mov (.n _) rfl rfl ?_   -- 9.0
          first | refine V_ix (.n _) Tryd.underlying34 Tryd.sizeOf3 rfl rfl (by omega) (by omega) rfl ?_ | refine V_ixz (.n _) Tryd.underlying34 Tryd.sizeOf3 rfl rfl (hm.rd.pl (by rw [hm.len]; omega)) (by omega) (by omega) rfl ?_ | refine V_ixz (.n _) Tryd.underlying34 Tryd.sizeOf3 rfl rfl (hrrv.pl (by simp)) (by omega) (by omega) rfl ?_ | refine V_ixz (.n _) Tryd.underlying34 Tryd.sizeOf3 rfl rfl (hr.pl (by simp)) (by omega) (by omega) rfl ?_ | refine V_ixz (.n _) Tryd.underlying34 Tryd.sizeOf3 rfl rfl (hrr0.pl (by simp)) (by omega) (by omega) rfl ?_ | refine V_ixz (.n _) Tryd.underlying34 Tryd.sizeOf3 rfl rfl (own_pl hown) (by omega) (by omega) rfl ?_ | refine V_ixz (.n _) Tryd.underlying34 Tryd.sizeOf3 rfl rfl (Pl.own _ _ _) (by omega) (by omega) rfl ?_   -- 9.1
          refine V_st (cs' := I (mkT d.length f0)) (.n _) Tryd.sizeOf3 rfl rfl rfl .z (near0 hn3) (by simp; omega) ?_   -- 9.2
          refine V_sub [(0, _), (1, _), (4, _), (5, _), (6, _), (7, _), (8, _), (17, _), (21, _), (27, _)] ⟨rfl, rfl, rfl, rfl, rfl, rfl, rfl, rfl, rfl, rfl, trivial⟩ ?_
          refine V_nil (.inl rfl) ?_
          refine E_then ?_
          refine J_seq ?_
          refine J_region ?_
          refine V_mov (.n _) rfl rfl ?_   -- 10.0
          refine V_make1 (.n _) Tryd.underlying117 Tryd.typeInfo4 rfl rfl rfl rfl rfl rfl (by omega) rfl (fun _ => trivial) (fun b44 => ?_)   -- 10.1
          rw [Bs_zero]
          refine V_asg (.n _) rfl rfl ?_   -- 10.2
          refine V_sub [(0, _), (1, _), (4, _), (5, _), (6, _), (7, _), (8, _), (9, _), (17, _), (21, _), (27, _)] ⟨rfl, rfl, rfl, rfl, rfl, rfl, rfl, rfl, rfl, rfl, rfl, trivial⟩ ?_
          refine V_nil (.inl rfl) ?_
          refine E_then ?_
          refine J_seq ?_
          refine J_seq ?_
          refine J_region ?_
          refine V_mov (.n _) rfl rfl ?_   -- 11.0
          refine V_sub1 (.n _) rfl rfl (wrap_ok (by omega)) rfl ?_   -- 11.1
          refine V_mov (.n _) rfl rfl ?_   -- 11.2
          refine V_sub [(0, _), (1, _), (4, _), (5, _), (6, _), (7, _), (8, _), (9, _), (17, _), (21, _), (27, _), (46, _), (47, _)] ⟨rfl, rfl, rfl, rfl, rfl, rfl, rfl, rfl, rfl, rfl, rfl, rfl, rfl, trivial⟩ ?_
          refine V_nil (.inl rfl) ?_
          refine E_then ?_
          refine J_block ?_
          -- loop L0
          have hpB0 : piB pi = true := piB_mm hn1 (by assumption) (by assumption)
          have hpB := fun j => piB_get (j := j) hpB0
          refine J_loop (X := Nat × Nat × Int × (Nat → Int)) (fun x => [(0, (.slice A d.length c)), (1, (.slice AP pi.length cP)), (4, (.int .i64 (0))), (5, (.int .i64 (0))), (6, (.int .i64 ((d.length : Nat) : Int))), (7, .int .i64 x.2.2.1), (8, (.slice (some ⟨bN, 0, none⟩) d.length d.length)), (9, (.slice (some ⟨b44, 0, none⟩) d.length d.length)), (46, (.int .i64 ((d.length : Nat) - 1 : Int))), (47, .int .i64 (x.1 : Nat))]) (fun x => [.c b44 4 (Bs d.length x.2.1), .c bN 3 (I (mkT d.length x.2.2.2)), .c b38 3 [.int .i64 1099511627776]]) (fun x => x.1 + 1 ≤ d.length ∧ GrB d.length (wt d pi) x.1 x.2.1 x.2.2.1 x.2.2.2) (fun x => d.length - x.1) (0, 1, 0, f0) (by refine ⟨?_, ?_, ?_, ?_, ?_, ?_, ?_, ?_, ?_, ?_, trivial⟩ <;> first | rfl | exact int_eq (by omega)) (fun w h => h) ?_ ?_
          · exact ⟨by omega, GrB.zero⟩
          · rintro ⟨k, s, acc, f⟩ ⟨hk, hB⟩
            dsimp only at hk hB ⊢
            have hbd := hB.bd
            refine J_seq ?_
            refine J_region ?_
            refine V_lss (.n _) rfl rfl rfl ?_   -- 12.0
            refine V_sub [(0, _), (1, _), (4, _), (5, _), (6, _), (7, _), (8, _), (9, _), (46, _), (47, _), (48, _)] ⟨rfl, rfl, rfl, rfl, rfl, rfl, rfl, rfl, rfl, rfl, rfl, trivial⟩ ?_
            refine V_nil (.inl rfl) ?_
            refine E_then ?_
            refine J_seq ?_
            refine J_cond rfl (fun h5 => ?_) (fun h5 => ?_)   -- C3
            · skip
              refine J_skip ?_
              refine E_then ?_
              refine J_seq ?_
              refine J_block ?_
              refine J_seq ?_
              refine J_region ?_
              refine V_asg (.n _) rfl rfl ?_   -- 13.0
              refine V_sub [(0, _), (1, _), (4, _), (5, _), (6, _), (7, _), (8, _), (9, _), (10, _), (46, _), (47, _), (48, _)] ⟨rfl, rfl, rfl, rfl, rfl, rfl, rfl, rfl, rfl, rfl, rfl, rfl, trivial⟩ ?_
              refine V_nil (.inl rfl) ?_
              refine E_then ?_
              refine J_seq ?_
              refine J_seq ?_
              refine J_region ?_
              refine V_asg (.n _) rfl rfl ?_   -- 14.0
              refine V_sub [(0, _), (1, _), (4, _), (5, _), (6, _), (7, _), (8, _), (9, _), (10, _), (11, _), (46, _), (47, _), (48, _)] ⟨rfl, rfl, rfl, rfl, rfl, rfl, rfl, rfl, rfl, rfl, rfl, rfl, rfl, trivial⟩ ?_
              refine V_nil (.inl rfl) ?_
              refine E_then ?_
              refine J_block ?_
              -- loop L1
              refine J_loop (X := Nat × Int) (fun x => [(0, (.slice A d.length c)), (1, (.slice AP pi.length cP)), (4, (.int .i64 (0))), (5, (.int .i64 (0))), (6, (.int .i64 ((d.length : Nat) : Int))), (7, .int .i64 acc), (8, (.slice (some ⟨bN, 0, none⟩) d.length d.length)), (9, (.slice (some ⟨b44, 0, none⟩) d.length d.length)), (10, .int .i64 x.2), (11, .int .i64 (x.1 : Nat)), (46, (.int .i64 ((d.length : Nat) - 1 : Int))), (47, .int .i64 (k : Nat))]) (fun x => [.c b44 4 (Bs d.length s), .c bN 3 (I (mkT d.length f)), .c b38 3 [.int .i64 1099511627776]]) (fun x => 1 ≤ x.1 ∧ x.1 ≤ d.length ∧ Sel s f x.1 x.2) (fun x => d.length - x.1) (1, -1) (by refine ⟨?_, ?_, ?_, ?_, ?_, ?_, ?_, ?_, ?_, ?_, ?_, ?_, trivial⟩ <;> first | rfl | exact int_eq (by omega)) (fun w h => h) ?_ ?_
              · exact ⟨by omega, by omega, Sel.zero⟩
              · rintro ⟨i, nx⟩ ⟨hi1, hi, hS⟩
                dsimp only at hi1 hi hS ⊢
                refine J_seq ?_
                refine J_seq ?_
                refine J_region ?_
                refine V_mov (.n _) rfl rfl ?_   -- 15.0
                refine V_mov (.n _) rfl rfl ?_   -- 15.1
                refine V_lss (.n _) rfl rfl rfl ?_   -- 15.2
                refine V_sub [(0, _), (1, _), (4, _), (5, _), (6, _), (7, _), (8, _), (9, _), (10, _), (11, _), (46, _), (47, _), (51, _)] ⟨rfl, rfl, rfl, rfl, rfl, rfl, rfl, rfl, rfl, rfl, rfl, rfl, rfl, trivial⟩ ?_
                refine V_nil (.inl rfl) ?_
                refine E_then ?_
                refine J_cond rfl (fun h6 => ?_) (fun h6 => ?_)   -- C4
                · skip
                  refine J_skip ?_
                  refine E_then ?_
                  refine J_seq ?_
                  refine J_block ?_
                  refine J_seq ?_
                  refine J_draw (Gs := _) (cl := [.p, .p, .p, .r, .p, .p, .p, .p, .p, .p, .p, .p, .r, .p, .p, .p, .r, .p, .p, .p]) (by kernel_rfl) (fun _ _ h => h) ?_
                  refine V_mov (.s _ _ _) rfl rfl ?_   -- 17.0
                  refine V_mov (.s _ _ _) rfl rfl ?_   -- 17.1
                  first | refine V_ix (.s _ _ _) Tryd.underlying117 Tryd.sizeOf4 rfl rfl (by omega) (by omega) rfl ?_ | refine V_ixz (.s _ _ _) Tryd.underlying117 Tryd.sizeOf4 rfl rfl (hm.rd.pl (by rw [hm.len]; omega)) (by omega) (by omega) rfl ?_ | refine V_ixz (.s _ _ _) Tryd.underlying117 Tryd.sizeOf4 rfl rfl (hrrv.pl (by simp)) (by omega) (by omega) rfl ?_ | refine V_ixz (.s _ _ _) Tryd.underlying117 Tryd.sizeOf4 rfl rfl (hr.pl (by simp)) (by omega) (by omega) rfl ?_ | refine V_ixz (.s _ _ _) Tryd.underlying117 Tryd.sizeOf4 rfl rfl (hrr0.pl (by simp)) (by omega) (by omega) rfl ?_ | refine V_ixz (.s _ _ _) Tryd.underlying117 Tryd.sizeOf4 rfl rfl (own_pl hown) (by omega) (by omega) rfl ?_ | refine V_ixz (.s _ _ _) Tryd.underlying117 Tryd.sizeOf4 rfl rfl (Pl.own _ _ _) (by omega) (by omega) rfl ?_   -- 17.2
                  refine V_ld (.s _ _ _) Tryd.isAgg4 rfl (by repeat (first | exact List.Mem.head _ | assumption | apply List.Mem.tail | apply List.mem_append_right)) (Bs_get (i := i) (by omega) (by omega)) rfl ?_   -- 17.3
                  refine V_notB (.s _ _ _) rfl rfl ?_   -- 17.4
                  refine V_mov (.s _ _ _) rfl rfl ?_   -- 17.5
                  refine V_splitB 59 rfl (fun h7 => ?_) (fun h7 => ?_)   -- guard 17.5
                  · skip
                    refine V_go (5, true) rfl ?_
                    refine V_mov (.s _ _ _) rfl rfl ?_   -- 17.6
                    refine V_go (5, true) rfl ?_
                    refine V_lss (.s _ _ _) rfl rfl rfl ?_   -- 17.7
                    refine V_go (5, true) rfl ?_
                    refine V_mov (.s _ _ _) rfl rfl ?_   -- 17.8
                    refine V_split 62 rfl (fun h8 => ?_) (fun h8 => ?_)   -- guard 17.8
                    · skip
                      refine V_pass (.s _ _ _) (8, false) rfl rfl ?_   -- 17.9
                      refine V_pass (.s _ _ _) (8, false) rfl rfl ?_   -- 17.10
                      refine V_pass (.s _ _ _) (8, false) rfl rfl ?_   -- 17.11
                      refine V_pass (.s _ _ _) (8, false) rfl rfl ?_   -- 17.12
                      refine V_pass (.s _ _ _) (8, false) rfl rfl ?_   -- 17.13
                      refine V_pass (.s _ _ _) (8, false) rfl rfl ?_   -- 17.14
                      refine V_pass (.s _ _ _) (8, false) rfl rfl ?_   -- 17.15
                      refine V_pass (.s _ _ _) (8, false) rfl rfl ?_   -- 17.16
                      refine V_pass (.s _ _ _) (8, false) rfl rfl ?_   -- 17.17
                      refine V_go (5, true) rfl ?_
                      refine V_pickT (.s _ _ _) rfl rfl rfl ?_   -- 17.18
                      refine V_pickT (.s _ _ _) rfl rfl rfl ?_   -- 17.19
                      refine V_sub [(0, _), (1, _), (4, _), (5, _), (6, _), (7, _), (8, _), (9, _), (10, _), (11, _), (46, _), (47, _), (51, _), (73, _)] ⟨rfl, rfl, rfl, rfl, rfl, rfl, rfl, rfl, rfl, rfl, rfl, rfl, rfl, rfl, trivial⟩ ?_
                      refine V_nil (.inr ⟨_, rfl⟩) ?_
                      refine E_then ?_
                      refine J_condT rfl ?_
                      refine J_region ?_
                      refine V_mov (.n _) rfl rfl ?_   -- 18.0
                      refine V_asg (.n _) rfl rfl ?_   -- 18.1
                      refine V_sub [(0, _), (1, _), (4, _), (5, _), (6, _), (7, _), (8, _), (9, _), (10, _), (11, _), (46, _), (47, _), (51, _), (73, _)] ⟨rfl, rfl, rfl, rfl, rfl, rfl, rfl, rfl, rfl, rfl, rfl, rfl, rfl, rfl, trivial⟩ ?_
                      refine V_nil (.inl rfl) ?_
                      refine E_blk ?_
                      refine E_then ?_
                      refine J_region ?_
                      refine V_mov (.n _) rfl rfl ?_   -- 16.0
                      refine V_add (.n _) rfl rfl (wrap_ok (by omega)) rfl ?_   -- 16.1
                      refine V_asg (.n _) rfl rfl ?_   -- 16.2
                      refine V_sub [(0, _), (1, _), (4, _), (5, _), (6, _), (7, _), (8, _), (9, _), (10, _), (11, _), (46, _), (47, _), (51, _), (73, _)] ⟨rfl, rfl, rfl, rfl, rfl, rfl, rfl, rfl, rfl, rfl, rfl, rfl, rfl, rfl, trivial⟩ ?_
                      refine V_nil (.inl rfl) ?_
                      -- again L1 0
                      refine E_again (X := Nat × Int) (KI := fun x => [(0, (.slice A d.length c)), (1, (.slice AP pi.length cP)), (4, (.int .i64 (0))), (5, (.int .i64 (0))), (6, (.int .i64 ((d.length : Nat) : Int))), (7, .int .i64 acc), (8, (.slice (some ⟨bN, 0, none⟩) d.length d.length)), (9, (.slice (some ⟨b44, 0, none⟩) d.length d.length)), (10, .int .i64 x.2), (11, .int .i64 (x.1 : Nat)), (46, (.int .i64 ((d.length : Nat) - 1 : Int))), (47, .int .i64 (k : Nat))]) (GI := fun x => [.c b44 4 (Bs d.length s), .c bN 3 (I (mkT d.length f)), .c b38 3 [.int .i64 1099511627776]]) (I := fun x => 1 ≤ x.1 ∧ x.1 ≤ d.length ∧ Sel s f x.1 x.2) (μ := fun x => d.length - x.1) (x := (i, nx)) ((i + 1, (i : Int))) ?_ ?_ ?_ (fun w h => h)
                      · show d.length - (i + 1) < d.length - i; omega
                      · exact ⟨by dsimp only; omega, by dsimp only; omega, hS.first (by omega) (notT (by assumption)) (by omega)⟩
                      · refine ⟨?_, ?_, ?_, ?_, ?_, ?_, ?_, ?_, ?_, ?_, ?_, ?_, trivial⟩ <;> first | rfl | exact int_eq (by omega) | exact int_eq (by dsimp only; omega)
                    · obtain ⟨v, hnv, hnv1, hnv2⟩ := hS.val (by omega)
                      refine V_go (8, false) rfl ?_
                      refine V_mov (.s _ _ _) rfl rfl ?_   -- 17.9
                      refine V_go (8, false) rfl ?_
                      refine V_mov (.s _ _ _) rfl rfl ?_   -- 17.10
                      refine V_go (8, false) rfl ?_
                      first | refine V_ix (.s _ _ _) Tryd.underlying34 Tryd.sizeOf3 rfl rfl (by omega) (by omega) rfl ?_ | refine V_ixz (.s _ _ _) Tryd.underlying34 Tryd.sizeOf3 rfl rfl (hm.rd.pl (by rw [hm.len]; omega)) (by omega) (by omega) rfl ?_ | refine V_ixz (.s _ _ _) Tryd.underlying34 Tryd.sizeOf3 rfl rfl (hrrv.pl (by simp)) (by omega) (by omega) rfl ?_ | refine V_ixz (.s _ _ _) Tryd.underlying34 Tryd.sizeOf3 rfl rfl (hr.pl (by simp)) (by omega) (by omega) rfl ?_ | refine V_ixz (.s _ _ _) Tryd.underlying34 Tryd.sizeOf3 rfl rfl (hrr0.pl (by simp)) (by omega) (by omega) rfl ?_ | refine V_ixz (.s _ _ _) Tryd.underlying34 Tryd.sizeOf3 rfl rfl (own_pl hown) (by omega) (by omega) rfl ?_ | refine V_ixz (.s _ _ _) Tryd.underlying34 Tryd.sizeOf3 rfl rfl (Pl.own _ _ _) (by omega) (by omega) rfl ?_   -- 17.11
                      refine V_go (8, false) rfl ?_
                      refine V_ld (.s _ _ _) Tryd.isAgg3 rfl (by repeat (first | exact List.Mem.head _ | assumption | apply List.Mem.tail | apply List.mem_append_right)) (I_getN (xs := mkT d.length f) (i := i) (by rw [mkT_length]; omega)) rfl ?_   -- 17.12
                      rw [mkT_get (by omega)]
                      refine V_go (8, false) rfl ?_
                      refine V_mov (.s _ _ _) rfl rfl ?_   -- 17.13
                      refine V_go (8, false) rfl ?_
                      refine V_mov (.s _ _ _) rfl rfl ?_   -- 17.14
                      rw [hnv]
                      refine V_go (8, false) rfl ?_
                      first | refine V_ix (.s _ _ _) Tryd.underlying34 Tryd.sizeOf3 rfl rfl (by omega) (by omega) rfl ?_ | refine V_ixz (.s _ _ _) Tryd.underlying34 Tryd.sizeOf3 rfl rfl (hm.rd.pl (by rw [hm.len]; omega)) (by omega) (by omega) rfl ?_ | refine V_ixz (.s _ _ _) Tryd.underlying34 Tryd.sizeOf3 rfl rfl (hrrv.pl (by simp)) (by omega) (by omega) rfl ?_ | refine V_ixz (.s _ _ _) Tryd.underlying34 Tryd.sizeOf3 rfl rfl (hr.pl (by simp)) (by omega) (by omega) rfl ?_ | refine V_ixz (.s _ _ _) Tryd.underlying34 Tryd.sizeOf3 rfl rfl (hrr0.pl (by simp)) (by omega) (by omega) rfl ?_ | refine V_ixz (.s _ _ _) Tryd.underlying34 Tryd.sizeOf3 rfl rfl (own_pl hown) (by omega) (by omega) rfl ?_ | refine V_ixz (.s _ _ _) Tryd.underlying34 Tryd.sizeOf3 rfl rfl (Pl.own _ _ _) (by omega) (by omega) rfl ?_   -- 17.15
                      refine V_go (8, false) rfl ?_
                      refine V_ld (.s _ _ _) Tryd.isAgg3 rfl (by repeat (first | exact List.Mem.head _ | assumption | apply List.Mem.tail | apply List.mem_append_right)) (I_getN (xs := mkT d.length f) (i := v) (by rw [mkT_length]; omega)) rfl ?_   -- 17.16
                      rw [mkT_get (by omega)]
                      refine V_go (8, false) rfl ?_
                      refine V_lss (.s _ _ _) rfl rfl rfl ?_   -- 17.17
                      refine V_go (5, true) rfl ?_
                      refine V_pickF (.s _ _ _) rfl rfl rfl ?_   -- 17.18
                      refine V_pickT (.s _ _ _) rfl rfl rfl ?_   -- 17.19
                      refine V_sub [(0, _), (1, _), (4, _), (5, _), (6, _), (7, _), (8, _), (9, _), (10, _), (11, _), (46, _), (47, _), (51, _), (73, _)] ⟨rfl, rfl, rfl, rfl, rfl, rfl, rfl, rfl, rfl, rfl, rfl, rfl, rfl, rfl, trivial⟩ ?_
                      refine V_nil (.inr ⟨_, rfl⟩) ?_
                      refine E_then ?_
                      refine J_cond rfl (fun h9 => ?_) (fun h9 => ?_)   -- C5
                      · skip
                        refine J_region ?_
                        refine V_mov (.n _) rfl rfl ?_   -- 18.0
                        refine V_asg (.n _) rfl rfl ?_   -- 18.1
                        refine V_sub [(0, _), (1, _), (4, _), (5, _), (6, _), (7, _), (8, _), (9, _), (10, _), (11, _), (46, _), (47, _), (51, _), (73, _)] ⟨rfl, rfl, rfl, rfl, rfl, rfl, rfl, rfl, rfl, rfl, rfl, rfl, rfl, rfl, trivial⟩ ?_
                        refine V_nil (.inl rfl) ?_
                        refine E_blk ?_
                        refine E_then ?_
                        refine J_region ?_
                        refine V_mov (.n _) rfl rfl ?_   -- 16.0
                        refine V_add (.n _) rfl rfl (wrap_ok (by omega)) rfl ?_   -- 16.1
                        refine V_asg (.n _) rfl rfl ?_   -- 16.2
                        refine V_sub [(0, _), (1, _), (4, _), (5, _), (6, _), (7, _), (8, _), (9, _), (10, _), (11, _), (46, _), (47, _), (51, _), (73, _)] ⟨rfl, rfl, rfl, rfl, rfl, rfl, rfl, rfl, rfl, rfl, rfl, rfl, rfl, rfl, trivial⟩ ?_
                        refine V_nil (.inl rfl) ?_
                        -- again L1 1
                        refine E_again (X := Nat × Int) (KI := fun x => [(0, (.slice A d.length c)), (1, (.slice AP pi.length cP)), (4, (.int .i64 (0))), (5, (.int .i64 (0))), (6, (.int .i64 ((d.length : Nat) : Int))), (7, .int .i64 acc), (8, (.slice (some ⟨bN, 0, none⟩) d.length d.length)), (9, (.slice (some ⟨b44, 0, none⟩) d.length d.length)), (10, .int .i64 x.2), (11, .int .i64 (x.1 : Nat)), (46, (.int .i64 ((d.length : Nat) - 1 : Int))), (47, .int .i64 (k : Nat))]) (GI := fun x => [.c b44 4 (Bs d.length s), .c bN 3 (I (mkT d.length f)), .c b38 3 [.int .i64 1099511627776]]) (I := fun x => 1 ≤ x.1 ∧ x.1 ≤ d.length ∧ Sel s f x.1 x.2) (μ := fun x => d.length - x.1) (x := (i, nx)) ((i + 1, (i : Int))) ?_ ?_ ?_ (fun w h => h)
                        · show d.length - (i + 1) < d.length - i; omega
                        · exact ⟨by dsimp only; omega, by dsimp only; omega, hS.less (by omega) (notT (by assumption)) hnv (by assumption)⟩
                        · refine ⟨?_, ?_, ?_, ?_, ?_, ?_, ?_, ?_, ?_, ?_, ?_, ?_, trivial⟩ <;> first | rfl | exact int_eq (by omega) | exact int_eq (by dsimp only; omega)
                      · skip
                        refine J_skip ?_
                        refine E_blk ?_
                        refine E_then ?_
                        refine J_region ?_
                        refine V_mov (.n _) rfl rfl ?_   -- 16.0
                        refine V_add (.n _) rfl rfl (wrap_ok (by omega)) rfl ?_   -- 16.1
                        refine V_asg (.n _) rfl rfl ?_   -- 16.2
                        refine V_sub [(0, _), (1, _), (4, _), (5, _), (6, _), (7, _), (8, _), (9, _), (10, _), (11, _), (46, _), (47, _), (51, _), (73, _)] ⟨rfl, rfl, rfl, rfl, rfl, rfl, rfl, rfl, rfl, rfl, rfl, rfl, rfl, rfl, trivial⟩ ?_
                        refine V_nil (.inl rfl) ?_
                        -- again L1 2
                        refine E_again (X := Nat × Int) (KI := fun x => [(0, (.slice A d.length c)), (1, (.slice AP pi.length cP)), (4, (.int .i64 (0))), (5, (.int .i64 (0))), (6, (.int .i64 ((d.length : Nat) : Int))), (7, .int .i64 acc), (8, (.slice (some ⟨bN, 0, none⟩) d.length d.length)), (9, (.slice (some ⟨b44, 0, none⟩) d.length d.length)), (10, .int .i64 x.2), (11, .int .i64 (x.1 : Nat)), (46, (.int .i64 ((d.length : Nat) - 1 : Int))), (47, .int .i64 (k : Nat))]) (GI := fun x => [.c b44 4 (Bs d.length s), .c bN 3 (I (mkT d.length f)), .c b38 3 [.int .i64 1099511627776]]) (I := fun x => 1 ≤ x.1 ∧ x.1 ≤ d.length ∧ Sel s f x.1 x.2) (μ := fun x => d.length - x.1) (x := (i, nx)) ((i + 1, nx)) ?_ ?_ ?_ (fun w h => h)
                        · show d.length - (i + 1) < d.length - i; omega
                        · exact ⟨by dsimp only; omega, by dsimp only; omega, hS.more hnv (by assumption)⟩
                        · refine ⟨?_, ?_, ?_, ?_, ?_, ?_, ?_, ?_, ?_, ?_, ?_, ?_, trivial⟩ <;> first | rfl | exact int_eq (by omega) | exact int_eq (by dsimp only; omega)
                  · skip
                    refine V_pass (.s _ _ _) (5, true) rfl rfl ?_   -- 17.6
                    refine V_pass (.s _ _ _) (5, true) rfl rfl ?_   -- 17.7
                    refine V_pass (.s _ _ _) (5, true) rfl rfl ?_   -- 17.8
                    refine V_pass (.s _ _ _) (8, false) rfl rfl ?_   -- 17.9
                    refine V_pass (.s _ _ _) (8, false) rfl rfl ?_   -- 17.10
                    refine V_pass (.s _ _ _) (8, false) rfl rfl ?_   -- 17.11
                    refine V_pass (.s _ _ _) (8, false) rfl rfl ?_   -- 17.12
                    refine V_pass (.s _ _ _) (8, false) rfl rfl ?_   -- 17.13
                    refine V_pass (.s _ _ _) (8, false) rfl rfl ?_   -- 17.14
                    refine V_pass (.s _ _ _) (8, false) rfl rfl ?_   -- 17.15
                    refine V_pass (.s _ _ _) (8, false) rfl rfl ?_   -- 17.16
                    refine V_pass (.s _ _ _) (8, false) rfl rfl ?_   -- 17.17
                    refine V_pass (.s _ _ _) (5, true) rfl rfl ?_   -- 17.18
                    refine V_pickF (.s _ _ _) rfl rfl rfl ?_   -- 17.19
                    refine V_sub [(0, _), (1, _), (4, _), (5, _), (6, _), (7, _), (8, _), (9, _), (10, _), (11, _), (46, _), (47, _), (51, _), (73, _)] ⟨rfl, rfl, rfl, rfl, rfl, rfl, rfl, rfl, rfl, rfl, rfl, rfl, rfl, rfl, trivial⟩ ?_
                    refine V_nil (.inr ⟨_, rfl⟩) ?_
                    refine E_then ?_
                    refine J_condF rfl ?_
                    refine J_skip ?_
                    refine E_blk ?_
                    refine E_then ?_
                    refine J_region ?_
                    refine V_mov (.n _) rfl rfl ?_   -- 16.0
                    refine V_add (.n _) rfl rfl (wrap_ok (by omega)) rfl ?_   -- 16.1
                    refine V_asg (.n _) rfl rfl ?_   -- 16.2
                    refine V_sub [(0, _), (1, _), (4, _), (5, _), (6, _), (7, _), (8, _), (9, _), (10, _), (11, _), (46, _), (47, _), (51, _), (73, _)] ⟨rfl, rfl, rfl, rfl, rfl, rfl, rfl, rfl, rfl, rfl, rfl, rfl, rfl, rfl, trivial⟩ ?_
                    refine V_nil (.inl rfl) ?_
                    -- again L1 3
                    refine E_again (X := Nat × Int) (KI := fun x => [(0, (.slice A d.length c)), (1, (.slice AP pi.length cP)), (4, (.int .i64 (0))), (5, (.int .i64 (0))), (6, (.int .i64 ((d.length : Nat) : Int))), (7, .int .i64 acc), (8, (.slice (some ⟨bN, 0, none⟩) d.length d.length)), (9, (.slice (some ⟨b44, 0, none⟩) d.length d.length)), (10, .int .i64 x.2), (11, .int .i64 (x.1 : Nat)), (46, (.int .i64 ((d.length : Nat) - 1 : Int))), (47, .int .i64 (k : Nat))]) (GI := fun x => [.c b44 4 (Bs d.length s), .c bN 3 (I (mkT d.length f)), .c b38 3 [.int .i64 1099511627776]]) (I := fun x => 1 ≤ x.1 ∧ x.1 ≤ d.length ∧ Sel s f x.1 x.2) (μ := fun x => d.length - x.1) (x := (i, nx)) ((i + 1, nx)) ?_ ?_ ?_ (fun w h => h)
                    · show d.length - (i + 1) < d.length - i; omega
                    · exact ⟨by dsimp only; omega, by dsimp only; omega, hS.inn (notF (by assumption))⟩
                    · refine ⟨?_, ?_, ?_, ?_, ?_, ?_, ?_, ?_, ?_, ?_, ?_, ?_, trivial⟩ <;> first | rfl | exact int_eq (by omega) | exact int_eq (by dsimp only; omega)
                · obtain ⟨v, rfl, hv, hsv, hmin⟩ := hB.sel hn3 (by omega) (by omega) hS (by omega)
                  obtain ⟨hB2, hf1, hf2⟩ := hB.next hn3 hv hsv hmin (fun a b ha hb => wt_bd hd hpB ha hb)
                  have hv2 := hv.2
                  have hv1 := hv.1
                  obtain ⟨Av, cv, hrowv, hrrv⟩ := hm.get (i := v) hv2
                  have hrlv := (hd.row hv2).1
                  have hcv := (hd.row hv2).2
                  refine J_exit ?_
                  refine E_then_exit ?_
                  refine E_lp_exit ?_
                  refine E_blk_hit ?_
                  refine E_then ?_
                  refine J_seq ?_
                  refine J_region ?_
                  refine V_mov (.n _) rfl rfl ?_   -- 19.0
                  refine V_mov (.n _) rfl rfl ?_   -- 19.1
                  first | refine V_ix (.n _) Tryd.underlying117 Tryd.sizeOf4 rfl rfl (by omega) (by omega) rfl ?_ | refine V_ixz (.n _) Tryd.underlying117 Tryd.sizeOf4 rfl rfl (hm.rd.pl (by rw [hm.len]; omega)) (by omega) (by omega) rfl ?_ | refine V_ixz (.n _) Tryd.underlying117 Tryd.sizeOf4 rfl rfl (hrrv.pl (by simp)) (by omega) (by omega) rfl ?_ | refine V_ixz (.n _) Tryd.underlying117 Tryd.sizeOf4 rfl rfl (hr.pl (by simp)) (by omega) (by omega) rfl ?_ | refine V_ixz (.n _) Tryd.underlying117 Tryd.sizeOf4 rfl rfl (hrr0.pl (by simp)) (by omega) (by omega) rfl ?_ | refine V_ixz (.n _) Tryd.underlying117 Tryd.sizeOf4 rfl rfl (own_pl hown) (by omega) (by omega) rfl ?_ | refine V_ixz (.n _) Tryd.underlying117 Tryd.sizeOf4 rfl rfl (Pl.own _ _ _) (by omega) (by omega) rfl ?_   -- 19.2
                  refine V_st (cs' := Bs d.length (s ||| 2 ^ v)) (.n _) Tryd.sizeOf4 rfl rfl rfl .z (by rw [toN]; exact Bs_set hv.1 hv.2) (by simp; exact hv.2) ?_   -- 19.3
                  refine V_sub [(0, _), (1, _), (4, _), (5, _), (6, _), (7, _), (8, _), (9, _), (10, _), (11, _), (46, _), (47, _), (51, _)] ⟨rfl, rfl, rfl, rfl, rfl, rfl, rfl, rfl, rfl, rfl, rfl, rfl, rfl, trivial⟩ ?_
                  refine V_nil (.inl rfl) ?_
                  refine E_then ?_
                  refine J_seq ?_
                  refine J_region ?_
                  refine V_mov (.n _) rfl rfl ?_   -- 20.0
                  refine V_mov (.n _) rfl rfl ?_   -- 20.1
                  refine V_mov (.n _) rfl rfl ?_   -- 20.2
                  first | refine V_ix (.n _) Tryd.underlying34 Tryd.sizeOf3 rfl rfl (by omega) (by omega) rfl ?_ | refine V_ixz (.n _) Tryd.underlying34 Tryd.sizeOf3 rfl rfl (hm.rd.pl (by rw [hm.len]; omega)) (by omega) (by omega) rfl ?_ | refine V_ixz (.n _) Tryd.underlying34 Tryd.sizeOf3 rfl rfl (hrrv.pl (by simp)) (by omega) (by omega) rfl ?_ | refine V_ixz (.n _) Tryd.underlying34 Tryd.sizeOf3 rfl rfl (hr.pl (by simp)) (by omega) (by omega) rfl ?_ | refine V_ixz (.n _) Tryd.underlying34 Tryd.sizeOf3 rfl rfl (hrr0.pl (by simp)) (by omega) (by omega) rfl ?_ | refine V_ixz (.n _) Tryd.underlying34 Tryd.sizeOf3 rfl rfl (own_pl hown) (by omega) (by omega) rfl ?_ | refine V_ixz (.n _) Tryd.underlying34 Tryd.sizeOf3 rfl rfl (Pl.own _ _ _) (by omega) (by omega) rfl ?_   -- 20.3
                  refine V_ld (.n _) Tryd.isAgg3 rfl (by repeat (first | exact List.Mem.head _ | assumption | apply List.Mem.tail | apply List.mem_append_right)) (I_getN (xs := mkT d.length f) (i := v) (by rw [mkT_length]; omega)) rfl ?_   -- 20.4
                  rw [mkT_get hv.2]
                  refine V_add (.n _) rfl rfl (wrap_ok (by omega)) rfl ?_   -- 20.5
                  refine V_asg (.n _) rfl rfl ?_   -- 20.6
                  refine V_sub [(0, _), (1, _), (4, _), (5, _), (6, _), (7, _), (8, _), (9, _), (10, _), (11, _), (46, _), (47, _), (51, _)] ⟨rfl, rfl, rfl, rfl, rfl, rfl, rfl, rfl, rfl, rfl, rfl, rfl, rfl, trivial⟩ ?_
                  refine V_nil (.inl rfl) ?_
                  refine E_then ?_
                  refine J_seq ?_
                  refine J_region ?_
                  refine V_asg (.n _) rfl rfl ?_   -- 21.0
                  refine V_sub [(0, _), (1, _), (4, _), (5, _), (6, _), (7, _), (8, _), (9, _), (10, _), (11, _), (12, _), (46, _), (47, _), (51, _)] ⟨rfl, rfl, rfl, rfl, rfl, rfl, rfl, rfl, rfl, rfl, rfl, rfl, rfl, rfl, trivial⟩ ?_
                  refine V_nil (.inl rfl) ?_
                  refine E_then ?_
                  refine J_block ?_
                  -- loop L2
                  rw [rlx_start (w := wt d pi) (f := f) (s := s ||| 2 ^ v) (v := v)]
                  refine J_loop (X := Nat) (fun i2 => [(0, (.slice A d.length c)), (1, (.slice AP pi.length cP)), (4, (.int .i64 (0))), (5, (.int .i64 (0))), (6, (.int .i64 ((d.length : Nat) : Int))), (7, (.int .i64 (acc + f v))), (8, (.slice (some ⟨bN, 0, none⟩) d.length d.length)), (9, (.slice (some ⟨b44, 0, none⟩) d.length d.length)), (10, (.int .i64 (v : Nat))), (11, .int .i64 (i : Nat)), (12, .int .i64 (i2 : Nat)), (46, (.int .i64 ((d.length : Nat) - 1 : Int))), (47, .int .i64 (k : Nat))]) (fun i2 => [.c b44 4 (Bs d.length (s ||| 2 ^ v)), .c bN 3 (I (mkT d.length (rlx (wt d pi) f (s ||| 2 ^ v) v i2))), .c b38 3 [.int .i64 1099511627776]]) (fun i2 => 1 ≤ i2 ∧ i2 ≤ d.length) (fun i2 => d.length - i2) (1) (by refine ⟨?_, ?_, ?_, ?_, ?_, ?_, ?_, ?_, ?_, ?_, ?_, ?_, ?_, trivial⟩ <;> first | rfl | exact int_eq (by omega)) (fun w h => h) ?_ ?_
                  · exact ⟨by omega, by omega⟩
                  · rintro i2 ⟨hi1, hi⟩
                    refine J_seq ?_
                    refine J_seq ?_
                    refine J_region ?_
                    refine V_mov (.n _) rfl rfl ?_   -- 22.0
                    refine V_mov (.n _) rfl rfl ?_   -- 22.1
                    refine V_lss (.n _) rfl rfl rfl ?_   -- 22.2
                    refine V_sub [(0, _), (1, _), (4, _), (5, _), (6, _), (7, _), (8, _), (9, _), (10, _), (11, _), (12, _), (46, _), (47, _), (86, _)] ⟨rfl, rfl, rfl, rfl, rfl, rfl, rfl, rfl, rfl, rfl, rfl, rfl, rfl, rfl, trivial⟩ ?_
                    refine V_nil (.inl rfl) ?_
                    refine E_then ?_
                    refine J_cond rfl (fun h10 => ?_) (fun h10 => ?_)   -- C6
                    · skip
                      refine J_skip ?_
                      refine E_then ?_
                      refine J_seq ?_
                      refine J_block ?_
                      refine J_seq ?_
                      refine J_region ?_
                      refine V_mov (.n _) rfl rfl ?_   -- 24.0
                      refine V_mov (.n _) rfl rfl ?_   -- 24.1
                      first | refine V_ix (.n _) Tryd.underlying117 Tryd.sizeOf4 rfl rfl (by omega) (by omega) rfl ?_ | refine V_ixz (.n _) Tryd.underlying117 Tryd.sizeOf4 rfl rfl (hm.rd.pl (by rw [hm.len]; omega)) (by omega) (by omega) rfl ?_ | refine V_ixz (.n _) Tryd.underlying117 Tryd.sizeOf4 rfl rfl (hrrv.pl (by simp)) (by omega) (by omega) rfl ?_ | refine V_ixz (.n _) Tryd.underlying117 Tryd.sizeOf4 rfl rfl (hr.pl (by simp)) (by omega) (by omega) rfl ?_ | refine V_ixz (.n _) Tryd.underlying117 Tryd.sizeOf4 rfl rfl (hrr0.pl (by simp)) (by omega) (by omega) rfl ?_ | refine V_ixz (.n _) Tryd.underlying117 Tryd.sizeOf4 rfl rfl (own_pl hown) (by omega) (by omega) rfl ?_ | refine V_ixz (.n _) Tryd.underlying117 Tryd.sizeOf4 rfl rfl (Pl.own _ _ _) (by omega) (by omega) rfl ?_   -- 24.2
                      refine V_ld (.n _) Tryd.isAgg4 rfl (by repeat (first | exact List.Mem.head _ | assumption | apply List.Mem.tail | apply List.mem_append_right)) (Bs_get (i := i2) (by omega) (by omega)) rfl ?_   -- 24.3
                      refine V_notB (.n _) rfl rfl ?_   -- 24.4
                      refine V_sub [(0, _), (1, _), (4, _), (5, _), (6, _), (7, _), (8, _), (9, _), (10, _), (11, _), (12, _), (46, _), (47, _), (86, _), (93, _)] ⟨rfl, rfl, rfl, rfl, rfl, rfl, rfl, rfl, rfl, rfl, rfl, rfl, rfl, rfl, rfl, trivial⟩ ?_
                      refine V_nil (.inl rfl) ?_
                      refine E_then ?_
                      refine J_condB rfl (fun h11 => ?_) (fun h11 => ?_)   -- C7
                      · skip
                        refine J_draw (Gs := _) (cl := [.p, .p, .p, .p, .p, .r, .p, .p, .p, .r, .p, .p, .r, .p, .p, .p, .r, .p, .p, .p, .p, .r, .p, .p, .p, .w]) (by kernel_rfl) (fun _ _ h => h) ?_
                        refine V_mov (.s _ _ _) rfl rfl ?_   -- 25.0
                        refine V_mov (.s _ _ _) rfl rfl ?_   -- 25.1
                        refine V_mov (.s _ _ _) rfl rfl ?_   -- 25.2
                        refine V_mov (.s _ _ _) rfl rfl ?_   -- 25.3
                        first | refine V_ix (.s _ _ _) Tryd.underlying34 Tryd.sizeOf3 rfl rfl (by omega) (by omega) rfl ?_ | refine V_ixz (.s _ _ _) Tryd.underlying34 Tryd.sizeOf3 rfl rfl (hm.rd.pl (by rw [hm.len]; omega)) (by omega) (by omega) rfl ?_ | refine V_ixz (.s _ _ _) Tryd.underlying34 Tryd.sizeOf3 rfl rfl (hrrv.pl (by simp)) (by omega) (by omega) rfl ?_ | refine V_ixz (.s _ _ _) Tryd.underlying34 Tryd.sizeOf3 rfl rfl (hr.pl (by simp)) (by omega) (by omega) rfl ?_ | refine V_ixz (.s _ _ _) Tryd.underlying34 Tryd.sizeOf3 rfl rfl (hrr0.pl (by simp)) (by omega) (by omega) rfl ?_ | refine V_ixz (.s _ _ _) Tryd.underlying34 Tryd.sizeOf3 rfl rfl (own_pl hown) (by omega) (by omega) rfl ?_ | refine V_ixz (.s _ _ _) Tryd.underlying34 Tryd.sizeOf3 rfl rfl (Pl.own _ _ _) (by omega) (by omega) rfl ?_   -- 25.4
                        refine V_ld (.s _ _ _) Tryd.isAgg3 rfl (by repeat (first | exact List.Mem.head _ | assumption | apply List.Mem.tail | apply List.mem_append_right)) (I_getN (xs := mkT d.length (rlx (wt d pi) f (s ||| 2 ^ v) v i2)) (i := i2) (by rw [mkT_length]; omega)) rfl ?_   -- 25.5
                        rw [rlx_at (by omega)]
                        refine V_mov (.s _ _ _) rfl rfl ?_   -- 25.6
                        refine V_mov (.s _ _ _) rfl rfl ?_   -- 25.7
                        first | refine V_ix (.s _ _ _) Tryd.underlying45 Tryd.sizeOf34 rfl rfl (by omega) (by omega) rfl ?_ | refine V_ixz (.s _ _ _) Tryd.underlying45 Tryd.sizeOf34 rfl rfl (hm.rd.pl (by rw [hm.len]; omega)) (by omega) (by omega) rfl ?_ | refine V_ixz (.s _ _ _) Tryd.underlying45 Tryd.sizeOf34 rfl rfl (hrrv.pl (by simp)) (by omega) (by omega) rfl ?_ | refine V_ixz (.s _ _ _) Tryd.underlying45 Tryd.sizeOf34 rfl rfl (hr.pl (by simp)) (by omega) (by omega) rfl ?_ | refine V_ixz (.s _ _ _) Tryd.underlying45 Tryd.sizeOf34 rfl rfl (hrr0.pl (by simp)) (by omega) (by omega) rfl ?_ | refine V_ixz (.s _ _ _) Tryd.underlying45 Tryd.sizeOf34 rfl rfl (own_pl hown) (by omega) (by omega) rfl ?_ | refine V_ixz (.s _ _ _) Tryd.underlying45 Tryd.sizeOf34 rfl rfl (Pl.own _ _ _) (by omega) (by omega) rfl ?_   -- 25.8
                        refine V_ldz (.s _ _ _) Tryd.isAgg34 rfl hm.rd hrowv rfl ?_   -- 25.9
                        refine V_mov (.s _ _ _) rfl rfl ?_   -- 25.10
                        first | refine V_ix (.s _ _ _) Tryd.underlying34 Tryd.sizeOf3 rfl rfl (by omega) (by omega) rfl ?_ | refine V_ixz (.s _ _ _) Tryd.underlying34 Tryd.sizeOf3 rfl rfl (hm.rd.pl (by rw [hm.len]; omega)) (by omega) (by omega) rfl ?_ | refine V_ixz (.s _ _ _) Tryd.underlying34 Tryd.sizeOf3 rfl rfl (hrrv.pl (by simp)) (by omega) (by omega) rfl ?_ | refine V_ixz (.s _ _ _) Tryd.underlying34 Tryd.sizeOf3 rfl rfl (hr.pl (by simp)) (by omega) (by omega) rfl ?_ | refine V_ixz (.s _ _ _) Tryd.underlying34 Tryd.sizeOf3 rfl rfl (hrr0.pl (by simp)) (by omega) (by omega) rfl ?_ | refine V_ixz (.s _ _ _) Tryd.underlying34 Tryd.sizeOf3 rfl rfl (own_pl hown) (by omega) (by omega) rfl ?_ | refine V_ixz (.s _ _ _) Tryd.underlying34 Tryd.sizeOf3 rfl rfl (Pl.own _ _ _) (by omega) (by omega) rfl ?_   -- 25.11
                        refine V_ldz (.s _ _ _) Tryd.isAgg3 rfl hrrv (I_getN (i := i2) (by omega)) rfl ?_   -- 25.12
                        have hci := hcv i2 (by omega)
                        have hpi := hpB v
                        have hpj := hpB i2
                        refine V_mov (.s _ _ _) rfl rfl ?_   -- 25.13
                        refine V_mov (.s _ _ _) rfl rfl ?_   -- 25.14
                        first | refine V_ix (.s _ _ _) Tryd.underlying34 Tryd.sizeOf3 rfl rfl (by omega) (by omega) rfl ?_ | refine V_ixz (.s _ _ _) Tryd.underlying34 Tryd.sizeOf3 rfl rfl (hm.rd.pl (by rw [hm.len]; omega)) (by omega) (by omega) rfl ?_ | refine V_ixz (.s _ _ _) Tryd.underlying34 Tryd.sizeOf3 rfl rfl (hrrv.pl (by simp)) (by omega) (by omega) rfl ?_ | refine V_ixz (.s _ _ _) Tryd.underlying34 Tryd.sizeOf3 rfl rfl (hr.pl (by simp)) (by omega) (by omega) rfl ?_ | refine V_ixz (.s _ _ _) Tryd.underlying34 Tryd.sizeOf3 rfl rfl (hrr0.pl (by simp)) (by omega) (by omega) rfl ?_ | refine V_ixz (.s _ _ _) Tryd.underlying34 Tryd.sizeOf3 rfl rfl (own_pl hown) (by omega) (by omega) rfl ?_ | refine V_ixz (.s _ _ _) Tryd.underlying34 Tryd.sizeOf3 rfl rfl (Pl.own _ _ _) (by omega) (by omega) rfl ?_   -- 25.15
                        refine V_ldz (.s _ _ _) Tryd.isAgg3 rfl hr (I_getN (i := v) (by omega)) rfl ?_   -- 25.16
                        refine V_add (.s _ _ _) rfl rfl (wrap_ok (by omega)) rfl ?_   -- 25.17
                        refine V_mov (.s _ _ _) rfl rfl ?_   -- 25.18
                        refine V_mov (.s _ _ _) rfl rfl ?_   -- 25.19
                        first | refine V_ix (.s _ _ _) Tryd.underlying34 Tryd.sizeOf3 rfl rfl (by omega) (by omega) rfl ?_ | refine V_ixz (.s _ _ _) Tryd.underlying34 Tryd.sizeOf3 rfl rfl (hm.rd.pl (by rw [hm.len]; omega)) (by omega) (by omega) rfl ?_ | refine V_ixz (.s _ _ _) Tryd.underlying34 Tryd.sizeOf3 rfl rfl (hrrv.pl (by simp)) (by omega) (by omega) rfl ?_ | refine V_ixz (.s _ _ _) Tryd.underlying34 Tryd.sizeOf3 rfl rfl (hr.pl (by simp)) (by omega) (by omega) rfl ?_ | refine V_ixz (.s _ _ _) Tryd.underlying34 Tryd.sizeOf3 rfl rfl (hrr0.pl (by simp)) (by omega) (by omega) rfl ?_ | refine V_ixz (.s _ _ _) Tryd.underlying34 Tryd.sizeOf3 rfl rfl (own_pl hown) (by omega) (by omega) rfl ?_ | refine V_ixz (.s _ _ _) Tryd.underlying34 Tryd.sizeOf3 rfl rfl (Pl.own _ _ _) (by omega) (by omega) rfl ?_   -- 25.20
                        refine V_ldz (.s _ _ _) Tryd.isAgg3 rfl hr (I_getN (i := i2) (by omega)) rfl ?_   -- 25.21
                        refine V_add (.s _ _ _) rfl rfl (wrap_ok (by omega)) rfl ?_   -- 25.22
                        refine V_min (.s _ _ _) rfl rfl rfl ?_   -- 25.23
                        first | refine V_ix (.s _ _ _) Tryd.underlying34 Tryd.sizeOf3 rfl rfl (by omega) (by omega) rfl ?_ | refine V_ixz (.s _ _ _) Tryd.underlying34 Tryd.sizeOf3 rfl rfl (hm.rd.pl (by rw [hm.len]; omega)) (by omega) (by omega) rfl ?_ | refine V_ixz (.s _ _ _) Tryd.underlying34 Tryd.sizeOf3 rfl rfl (hrrv.pl (by simp)) (by omega) (by omega) rfl ?_ | refine V_ixz (.s _ _ _) Tryd.underlying34 Tryd.sizeOf3 rfl rfl (hr.pl (by simp)) (by omega) (by omega) rfl ?_ | refine V_ixz (.s _ _ _) Tryd.underlying34 Tryd.sizeOf3 rfl rfl (hrr0.pl (by simp)) (by omega) (by omega) rfl ?_ | refine V_ixz (.s _ _ _) Tryd.underlying34 Tryd.sizeOf3 rfl rfl (own_pl hown) (by omega) (by omega) rfl ?_ | refine V_ixz (.s _ _ _) Tryd.underlying34 Tryd.sizeOf3 rfl rfl (Pl.own _ _ _) (by omega) (by omega) rfl ?_   -- 25.24
                        refine V_st (cs' := I (mkT d.length (rlx (wt d pi) f (s ||| 2 ^ v) v (i2 + 1)))) (.s _ _ _) Tryd.sizeOf3 rfl rfl rfl (by repeat (first | exact SetAt.z | apply SetAt.s)) (by rw [toN]; exact rlx_take (by omega) (notT (by assumption))) (by simp; omega) ?_   -- 25.25
                        refine V_sub [(0, _), (1, _), (4, _), (5, _), (6, _), (7, _), (8, _), (9, _), (10, _), (11, _), (12, _), (46, _), (47, _), (86, _), (93, _)] ⟨rfl, rfl, rfl, rfl, rfl, rfl, rfl, rfl, rfl, rfl, rfl, rfl, rfl, rfl, rfl, trivial⟩ ?_
                        refine V_nil (.inr ⟨_, rfl⟩) ?_
                        refine E_blk ?_
                        refine E_then ?_
                        refine J_region ?_
                        refine V_mov (.n _) rfl rfl ?_   -- 23.0
                        refine V_add (.n _) rfl rfl (wrap_ok (by omega)) rfl ?_   -- 23.1
                        refine V_asg (.n _) rfl rfl ?_   -- 23.2
                        refine V_sub [(0, _), (1, _), (4, _), (5, _), (6, _), (7, _), (8, _), (9, _), (10, _), (11, _), (12, _), (46, _), (47, _), (86, _), (93, _)] ⟨rfl, rfl, rfl, rfl, rfl, rfl, rfl, rfl, rfl, rfl, rfl, rfl, rfl, rfl, rfl, trivial⟩ ?_
                        refine V_nil (.inl rfl) ?_
                        -- again L2 0
                        refine E_again (i2 + 1) ?_ ?_ ?_ (fun w h => h)
                        · omega
                        · exact ⟨by omega, by omega⟩
                        · refine ⟨?_, ?_, ?_, ?_, ?_, ?_, ?_, ?_, ?_, ?_, ?_, ?_, ?_, trivial⟩ <;> first | rfl | exact int_eq (by omega) | exact int_eq (by dsimp only; omega)
                      · skip
                        refine J_skip ?_
                        refine E_blk ?_
                        refine E_then ?_
                        refine J_region ?_
                        refine V_mov (.n _) rfl rfl ?_   -- 23.0
                        refine V_add (.n _) rfl rfl (wrap_ok (by omega)) rfl ?_   -- 23.1
                        refine V_asg (.n _) rfl rfl ?_   -- 23.2
                        refine V_sub [(0, _), (1, _), (4, _), (5, _), (6, _), (7, _), (8, _), (9, _), (10, _), (11, _), (12, _), (46, _), (47, _), (86, _), (93, _)] ⟨rfl, rfl, rfl, rfl, rfl, rfl, rfl, rfl, rfl, rfl, rfl, rfl, rfl, rfl, rfl, trivial⟩ ?_
                        refine V_nil (.inl rfl) ?_
                        -- again L2 1
                        refine E_again (i2 + 1) ?_ ?_ ?_ (fun w h => by rw [← rlx_skip (notF (by assumption))]; exact h)
                        · omega
                        · exact ⟨by omega, by omega⟩
                        · refine ⟨?_, ?_, ?_, ?_, ?_, ?_, ?_, ?_, ?_, ?_, ?_, ?_, ?_, trivial⟩ <;> first | rfl | exact int_eq (by omega) | exact int_eq (by dsimp only; omega)
                    · skip
                      refine J_exit ?_
                      refine E_then_exit ?_
                      refine E_lp_exit ?_
                      refine E_blk_hit ?_
                      refine E_blk ?_
                      refine E_then ?_
                      refine J_region ?_
                      refine V_add (.n _) rfl rfl (wrap_ok (by omega)) rfl ?_   -- 26.0
                      refine V_mov (.n _) rfl rfl ?_   -- 26.1
                      refine V_sub [(0, _), (1, _), (4, _), (5, _), (6, _), (7, _), (8, _), (9, _), (10, _), (11, _), (12, _), (46, _), (47, _), (86, _)] ⟨rfl, rfl, rfl, rfl, rfl, rfl, rfl, rfl, rfl, rfl, rfl, rfl, rfl, rfl, trivial⟩ ?_
                      refine V_nil (.inl rfl) ?_
                      -- again L0 0
                      obtain rfl : i2 = d.length := by omega
                      refine E_again (X := Nat × Nat × Int × (Nat → Int)) (KI := fun x => [(0, (.slice A d.length c)), (1, (.slice AP pi.length cP)), (4, (.int .i64 (0))), (5, (.int .i64 (0))), (6, (.int .i64 ((d.length : Nat) : Int))), (7, .int .i64 x.2.2.1), (8, (.slice (some ⟨bN, 0, none⟩) d.length d.length)), (9, (.slice (some ⟨b44, 0, none⟩) d.length d.length)), (46, (.int .i64 ((d.length : Nat) - 1 : Int))), (47, .int .i64 (x.1 : Nat))]) (GI := fun x => [.c b44 4 (Bs d.length x.2.1), .c bN 3 (I (mkT d.length x.2.2.2)), .c b38 3 [.int .i64 1099511627776]]) (I := fun x => x.1 + 1 ≤ d.length ∧ GrB d.length (wt d pi) x.1 x.2.1 x.2.2.1 x.2.2.2) (μ := fun x => d.length - x.1) (x := (k, s, acc, f)) ((k + 1, s ||| 2 ^ v, acc + f v, rlx (wt d pi) f (s ||| 2 ^ v) v d.length)) ?_ ?_ ?_ (fun w h => h)
                      · show d.length - (k + 1) < d.length - k; omega
                      · exact ⟨by dsimp only; omega, hB2⟩
                      · refine ⟨?_, ?_, ?_, ?_, ?_, ?_, ?_, ?_, ?_, ?_, trivial⟩ <;> first | rfl | exact int_eq (by omega) | exact int_eq (by dsimp only; omega)
            · skip
              refine J_exit ?_
              refine E_then_exit ?_
              refine E_lp_exit ?_
              refine E_blk_hit ?_
              refine E_then ?_
              refine J_seq ?_
              refine J_region ?_
              refine V_asg (.n _) rfl rfl ?_   -- 27.0
              refine V_sub [(0, _), (1, _), (4, _), (5, _), (6, _), (7, _), (8, _), (9, _), (13, _), (46, _), (47, _), (48, _)] ⟨rfl, rfl, rfl, rfl, rfl, rfl, rfl, rfl, rfl, rfl, rfl, rfl, trivial⟩ ?_
              refine V_nil (.inl rfl) ?_
              refine E_then ?_
              refine J_seq ?_
              refine J_seq ?_
              refine J_region ?_
              refine V_asg (.n _) rfl rfl ?_   -- 28.0
              refine V_sub [(0, _), (1, _), (4, _), (5, _), (6, _), (7, _), (8, _), (9, _), (13, _), (14, _), (46, _), (47, _), (48, _)] ⟨rfl, rfl, rfl, rfl, rfl, rfl, rfl, rfl, rfl, rfl, rfl, rfl, rfl, trivial⟩ ?_
              refine V_nil (.inl rfl) ?_
              refine E_then ?_
              refine J_block ?_
              -- loop L3
              have hT := hB.full hd (by omega)
              obtain ⟨A0, c0, hrow0, hrr0⟩ := hm.get (i := 0) (by omega)
              have hrl0 := (hd.row (show 0 < d.length by omega)).1
              have hc0 := (hd.row (show 0 < d.length by omega)).2
              refine J_loop (X := Nat × Option Addr × Nat × Ent) (fun x => [(0, (.slice A d.length c)), (1, (.slice AP pi.length cP)), (4, (.int .i64 (0))), (5, (.int .i64 (0))), (6, (.int .i64 ((d.length : Nat) : Int))), (7, .int .i64 acc), (8, (.slice (some ⟨bN, 0, none⟩) d.length d.length)), (9, (.slice (some ⟨b44, 0, none⟩) d.length d.length)), (13, .slice x.2.1 x.1 x.2.2.1), (14, .int .i64 ((x.1 + 1 : Nat) : Int))]) (fun x => x.2.2.2 :: [.c b44 4 (Bs d.length s), .c bN 3 (I (mkT d.length f)), .c b38 3 [.int .i64 1099511627776]]) (fun x => x.1 + 1 ≤ d.length ∧ Own 3 1 (.slice x.2.1 x.1 x.2.2.1) x.1 (I (zsT d pi x.1)) x.2.2.2) (fun x => d.length - x.1) (0, none, 0, .e) (by refine ⟨?_, ?_, ?_, ?_, ?_, ?_, ?_, ?_, ?_, ?_, trivial⟩ <;> first | rfl | exact int_eq (by omega)) (fun w h => st_empty h) ?_ ?_
              · exact ⟨by dsimp only; omega, Own.nil _ _ _⟩
              · rintro ⟨k3, Az, cz, X1⟩ ⟨hk3, hown⟩
                dsimp only at hk3 hown ⊢
                refine J_seq ?_
                refine J_seq ?_
                refine J_region ?_
                refine V_mov (.n _) rfl rfl ?_   -- 29.0
                refine V_mov (.n _) rfl rfl ?_   -- 29.1
                refine V_lss (.n _) rfl rfl rfl ?_   -- 29.2
                refine V_sub [(0, _), (1, _), (4, _), (5, _), (6, _), (7, _), (8, _), (9, _), (13, _), (14, _), (122, _)] ⟨rfl, rfl, rfl, rfl, rfl, rfl, rfl, rfl, rfl, rfl, rfl, trivial⟩ ?_
                refine V_nil (.inl rfl) ?_
                refine E_then ?_
                refine J_cond rfl (fun h12 => ?_) (fun h12 => ?_)   -- C8
                · skip
                  refine J_skip ?_
                  refine E_then ?_
                  refine J_seq ?_
                  refine J_block ?_
                  refine J_draw (Gs := _) (cl := [.p, .p, .p, .r, .p, .p, .r, .p, .p, .r, .p, .p, .p, .p, .r, .p, .e, .w, .p]) (by kernel_rfl) (fun _ _ h => h) ?_
                  refine V_mov (.s _ _ _) rfl rfl ?_   -- 31.0
                  refine V_mov (.s _ _ _) rfl rfl ?_   -- 31.1
                  first | refine V_ix (.s _ _ _) Tryd.underlying45 Tryd.sizeOf34 rfl rfl (by omega) (by omega) rfl ?_ | refine V_ixz (.s _ _ _) Tryd.underlying45 Tryd.sizeOf34 rfl rfl (hm.rd.pl (by rw [hm.len]; omega)) (by omega) (by omega) rfl ?_ | refine V_ixz (.s _ _ _) Tryd.underlying45 Tryd.sizeOf34 rfl rfl (hrrv.pl (by simp)) (by omega) (by omega) rfl ?_ | refine V_ixz (.s _ _ _) Tryd.underlying45 Tryd.sizeOf34 rfl rfl (hr.pl (by simp)) (by omega) (by omega) rfl ?_ | refine V_ixz (.s _ _ _) Tryd.underlying45 Tryd.sizeOf34 rfl rfl (hrr0.pl (by simp)) (by omega) (by omega) rfl ?_ | refine V_ixz (.s _ _ _) Tryd.underlying45 Tryd.sizeOf34 rfl rfl (own_pl hown) (by omega) (by omega) rfl ?_ | refine V_ixz (.s _ _ _) Tryd.underlying45 Tryd.sizeOf34 rfl rfl (Pl.own _ _ _) (by omega) (by omega) rfl ?_   -- 31.2
                  refine V_ldz (.s _ _ _) Tryd.isAgg34 rfl hm.rd hrow0 rfl ?_   -- 31.3
                  refine V_mov (.s _ _ _) rfl rfl ?_   -- 31.4
                  first | refine V_ix (.s _ _ _) Tryd.underlying34 Tryd.sizeOf3 rfl rfl (by omega) (by omega) rfl ?_ | refine V_ixz (.s _ _ _) Tryd.underlying34 Tryd.sizeOf3 rfl rfl (hm.rd.pl (by rw [hm.len]; omega)) (by omega) (by omega) rfl ?_ | refine V_ixz (.s _ _ _) Tryd.underlying34 Tryd.sizeOf3 rfl rfl (hrrv.pl (by simp)) (by omega) (by omega) rfl ?_ | refine V_ixz (.s _ _ _) Tryd.underlying34 Tryd.sizeOf3 rfl rfl (hr.pl (by simp)) (by omega) (by omega) rfl ?_ | refine V_ixz (.s _ _ _) Tryd.underlying34 Tryd.sizeOf3 rfl rfl (hrr0.pl (by simp)) (by omega) (by omega) rfl ?_ | refine V_ixz (.s _ _ _) Tryd.underlying34 Tryd.sizeOf3 rfl rfl (own_pl hown) (by omega) (by omega) rfl ?_ | refine V_ixz (.s _ _ _) Tryd.underlying34 Tryd.sizeOf3 rfl rfl (Pl.own _ _ _) (by omega) (by omega) rfl ?_   -- 31.5
                  have hcj := hc0 (k3 + 1) (by omega)
                  have hpi := hpB 0
                  have hpj := hpB (k3 + 1)
                  refine V_ldz (.s _ _ _) Tryd.isAgg3 rfl hrr0 (I_getN (i := k3 + 1) (by omega)) rfl ?_   -- 31.6
                  refine V_mov (.s _ _ _) rfl rfl ?_   -- 31.7
                  first | refine V_ix (.s _ _ _) Tryd.underlying34 Tryd.sizeOf3 rfl rfl (by omega) (by omega) rfl ?_ | refine V_ixz (.s _ _ _) Tryd.underlying34 Tryd.sizeOf3 rfl rfl (hm.rd.pl (by rw [hm.len]; omega)) (by omega) (by omega) rfl ?_ | refine V_ixz (.s _ _ _) Tryd.underlying34 Tryd.sizeOf3 rfl rfl (hrrv.pl (by simp)) (by omega) (by omega) rfl ?_ | refine V_ixz (.s _ _ _) Tryd.underlying34 Tryd.sizeOf3 rfl rfl (hr.pl (by simp)) (by omega) (by omega) rfl ?_ | refine V_ixz (.s _ _ _) Tryd.underlying34 Tryd.sizeOf3 rfl rfl (hrr0.pl (by simp)) (by omega) (by omega) rfl ?_ | refine V_ixz (.s _ _ _) Tryd.underlying34 Tryd.sizeOf3 rfl rfl (own_pl hown) (by omega) (by omega) rfl ?_ | refine V_ixz (.s _ _ _) Tryd.underlying34 Tryd.sizeOf3 rfl rfl (Pl.own _ _ _) (by omega) (by omega) rfl ?_   -- 31.8
                  refine V_ldz (.s _ _ _) Tryd.isAgg3 rfl hr (I_getN (i := 0) (by omega)) rfl ?_   -- 31.9
                  refine V_add (.s _ _ _) rfl rfl (wrap_ok (by omega)) rfl ?_   -- 31.10
                  refine V_mov (.s _ _ _) rfl rfl ?_   -- 31.11
                  refine V_mov (.s _ _ _) rfl rfl ?_   -- 31.12
                  first | refine V_ix (.s _ _ _) Tryd.underlying34 Tryd.sizeOf3 rfl rfl (by omega) (by omega) rfl ?_ | refine V_ixz (.s _ _ _) Tryd.underlying34 Tryd.sizeOf3 rfl rfl (hm.rd.pl (by rw [hm.len]; omega)) (by omega) (by omega) rfl ?_ | refine V_ixz (.s _ _ _) Tryd.underlying34 Tryd.sizeOf3 rfl rfl (hrrv.pl (by simp)) (by omega) (by omega) rfl ?_ | refine V_ixz (.s _ _ _) Tryd.underlying34 Tryd.sizeOf3 rfl rfl (hr.pl (by simp)) (by omega) (by omega) rfl ?_ | refine V_ixz (.s _ _ _) Tryd.underlying34 Tryd.sizeOf3 rfl rfl (hrr0.pl (by simp)) (by omega) (by omega) rfl ?_ | refine V_ixz (.s _ _ _) Tryd.underlying34 Tryd.sizeOf3 rfl rfl (own_pl hown) (by omega) (by omega) rfl ?_ | refine V_ixz (.s _ _ _) Tryd.underlying34 Tryd.sizeOf3 rfl rfl (Pl.own _ _ _) (by omega) (by omega) rfl ?_   -- 31.13
                  refine V_ldz (.s _ _ _) Tryd.isAgg3 rfl hr (I_getN (i := (k3 + 1)) (by omega)) rfl ?_   -- 31.14
                  refine V_add (.s _ _ _) rfl rfl (wrap_ok (by omega)) rfl ?_   -- 31.15
                  refine V_lit (.s _ _ _) Tryd.underlying34 Tryd.sizeOf3 Tryd.zeroValue3 (.cons rfl rfl rfl .nil) rfl rfl rfl (fun _ => (fun _ _ h => h.sublist (by simp))) (fun b141 => ?_)   -- 31.16
                  refine V_app (z := 1) (ms := I [wt d pi 0 (k3 + 1)]) (X := X1) (G1 := [.c b141 3 [.int .i64 (wt d pi 0 (k3 + 1))]]) (.s _ _ _) Tryd.underlying34 Tryd.underlying34 Tryd.typeInfo3 rfl rfl rfl rfl rfl rfl rfl rfl hown (fun w1 hw1 => Rd.own hw1 (t := 3) (List.Mem.head _)) (by simp) (I_one _) (by omega) rfl ?_
                  intro v2 X2 hown2
                  rw [zsT_own] at hown2
                  obtain ⟨q1, q2, rfl, _⟩ := hown2.is
                  simp only [List.cons_append, List.nil_append]
                  refine V_asg (.s _ _ _) rfl rfl ?_   -- 31.18
                  refine V_sub [(0, _), (1, _), (4, _), (5, _), (6, _), (7, _), (8, _), (9, _), (13, _), (14, _), (122, _)] ⟨rfl, rfl, rfl, rfl, rfl, rfl, rfl, rfl, rfl, rfl, rfl, trivial⟩ ?_
                  refine V_nil (.inr ⟨_, rfl⟩) ?_
                  refine E_blk ?_
                  refine E_then ?_
                  refine J_region ?_
                  refine V_mov (.n _) rfl rfl ?_   -- 30.0
                  refine V_add (.n _) rfl rfl (wrap_ok (by omega)) rfl ?_   -- 30.1
                  refine V_asg (.n _) rfl rfl ?_   -- 30.2
                  refine V_sub [(0, _), (1, _), (4, _), (5, _), (6, _), (7, _), (8, _), (9, _), (13, _), (14, _), (122, _)] ⟨rfl, rfl, rfl, rfl, rfl, rfl, rfl, rfl, rfl, rfl, rfl, trivial⟩ ?_
                  refine V_nil (.inl rfl) ?_
                  -- again L3 0
                  refine E_again (X := Nat × Option Addr × Nat × Ent) (KI := fun x => [(0, (.slice A d.length c)), (1, (.slice AP pi.length cP)), (4, (.int .i64 (0))), (5, (.int .i64 (0))), (6, (.int .i64 ((d.length : Nat) : Int))), (7, .int .i64 acc), (8, (.slice (some ⟨bN, 0, none⟩) d.length d.length)), (9, (.slice (some ⟨b44, 0, none⟩) d.length d.length)), (13, .slice x.2.1 x.1 x.2.2.1), (14, .int .i64 ((x.1 + 1 : Nat) : Int))]) (GI := fun x => x.2.2.2 :: [.c b44 4 (Bs d.length s), .c bN 3 (I (mkT d.length f)), .c b38 3 [.int .i64 1099511627776]]) (I := fun x => x.1 + 1 ≤ d.length ∧ Own 3 1 (.slice x.2.1 x.1 x.2.2.1) x.1 (I (zsT d pi x.1)) x.2.2.2) (μ := fun x => d.length - x.1) (x := (k3, Az, cz, X1)) ((k3 + 1, q1, q2, X2)) ?_ ?_ ?_ (fun w h => h.sublist (List.sublist_cons_self _ _))
                  · show d.length - (k3 + 1) < d.length - k3; omega
                  · exact ⟨by dsimp only; omega, hown2⟩
                  · refine ⟨?_, ?_, ?_, ?_, ?_, ?_, ?_, ?_, ?_, ?_, trivial⟩ <;> first | rfl | exact int_eq (by omega) | exact int_eq (by dsimp only; omega)
                · obtain ⟨bz, pre, sp, rfl, rfl⟩ := own_far hown (by omega)
                  refine J_exit ?_
                  refine E_then_exit ?_
                  refine E_lp_exit ?_
                  refine E_blk_hit ?_
                  refine E_then ?_
                  refine J_seq ?_
                  refine J_region ?_
                  refine V_mov (.n _) rfl rfl ?_   -- 32.0
                  refine V_callW (post := fun v1 G' => ∃ ys, v1 = .tuple #[] ∧ ys.Perm (zsT d pi k3) ∧ SrtTo ys k3 ∧ G' = .c bz 3 (pre ++ I ys ++ sp) :: [.c b44 4 (Bs d.length s), .c bN 3 (I (mkT d.length f)), .c b38 3 [.int .i64 1099511627776]]) (.n _) Tryd.call95 (.cons rfl .nil) (fun w1 hw1 => by
                    have h := sort_spec w w1 bz cz pre sp (zsT d pi k3) [.c b44 4 (Bs d.length s), .c bN 3 (I (mkT d.length f)), .c b38 3 [.int .i64 1099511627776]] (by rw [zsT_length]; omega) hw1
                    rw [zsT_length] at h
                    exact h.mono fun e w2 ⟨ys, he, h1, h2, h3⟩ => ⟨_, _, he, h3, ys, rfl, h1, h2, rfl⟩) rfl ?_
                  rintro _ G' ⟨ys, rfl, hyp, hys, rfl⟩
                  have hyl : ys.length = k3 := by rw [hyp.length_eq, zsT_length]
                  have htwo := sorted_zs (by omega) hyp hys (fun j hj => by have := (wt_bd hd hpB (show 0 < d.length by omega) (show j + 1 < d.length by omega)).2; have hfar : far2 = 1099511627776 := rfl; omega)
                  have htb := twoK_bd (d := d) (pi := pi) (fun j hj => (wt_bd hd hpB (show 0 < d.length by omega) hj).1) k3 (by omega)
                  have hy0 := zs_bd hd hpB (by omega) hyp 0 (by omega)
                  have hy1 := zs_bd hd hpB (by omega) hyp 1 (by omega)
                  refine V_sub [(0, _), (1, _), (4, _), (5, _), (6, _), (7, _), (8, _), (9, _), (13, _), (14, _), (122, _)] ⟨rfl, rfl, rfl, rfl, rfl, rfl, rfl, rfl, rfl, rfl, rfl, trivial⟩ ?_
                  refine V_nil (.inl rfl) ?_
                  refine E_then ?_
                  refine J_seq ?_
                  refine J_draw (Gs := _) (cl := [.p, .p, .p, .r, .p, .p, .r, .p, .p, .p]) (by kernel_rfl) (fun _ _ h => h) ?_
                  refine V_mov (.s _ _ _) rfl rfl ?_   -- 33.0
                  refine V_mov (.s _ _ _) rfl rfl ?_   -- 33.1
                  first | refine V_ix (.s _ _ _) Tryd.underlying34 Tryd.sizeOf3 rfl rfl (by omega) (by omega) rfl ?_ | refine V_ixz (.s _ _ _) Tryd.underlying34 Tryd.sizeOf3 rfl rfl (hm.rd.pl (by rw [hm.len]; omega)) (by omega) (by omega) rfl ?_ | refine V_ixz (.s _ _ _) Tryd.underlying34 Tryd.sizeOf3 rfl rfl (hrrv.pl (by simp)) (by omega) (by omega) rfl ?_ | refine V_ixz (.s _ _ _) Tryd.underlying34 Tryd.sizeOf3 rfl rfl (hr.pl (by simp)) (by omega) (by omega) rfl ?_ | refine V_ixz (.s _ _ _) Tryd.underlying34 Tryd.sizeOf3 rfl rfl (hrr0.pl (by simp)) (by omega) (by omega) rfl ?_ | refine V_ixz (.s _ _ _) Tryd.underlying34 Tryd.sizeOf3 rfl rfl (own_pl hown) (by omega) (by omega) rfl ?_ | refine V_ixz (.s _ _ _) Tryd.underlying34 Tryd.sizeOf3 rfl rfl (Pl.own _ _ _) (by omega) (by omega) rfl ?_   -- 33.2
                  refine V_ld (.s _ _ _) Tryd.isAgg3 rfl (List.Mem.head _) (Sp_get (xs := ys) (i := 0) (by omega)) rfl ?_   -- 33.3
                  refine V_mov (.s _ _ _) rfl rfl ?_   -- 33.4
                  first | refine V_ix (.s _ _ _) Tryd.underlying34 Tryd.sizeOf3 rfl rfl (by omega) (by omega) rfl ?_ | refine V_ixz (.s _ _ _) Tryd.underlying34 Tryd.sizeOf3 rfl rfl (hm.rd.pl (by rw [hm.len]; omega)) (by omega) (by omega) rfl ?_ | refine V_ixz (.s _ _ _) Tryd.underlying34 Tryd.sizeOf3 rfl rfl (hrrv.pl (by simp)) (by omega) (by omega) rfl ?_ | refine V_ixz (.s _ _ _) Tryd.underlying34 Tryd.sizeOf3 rfl rfl (hr.pl (by simp)) (by omega) (by omega) rfl ?_ | refine V_ixz (.s _ _ _) Tryd.underlying34 Tryd.sizeOf3 rfl rfl (hrr0.pl (by simp)) (by omega) (by omega) rfl ?_ | refine V_ixz (.s _ _ _) Tryd.underlying34 Tryd.sizeOf3 rfl rfl (own_pl hown) (by omega) (by omega) rfl ?_ | refine V_ixz (.s _ _ _) Tryd.underlying34 Tryd.sizeOf3 rfl rfl (Pl.own _ _ _) (by omega) (by omega) rfl ?_   -- 33.5
                  refine V_ld (.s _ _ _) Tryd.isAgg3 rfl (List.Mem.head _) (Sp_get (xs := ys) (i := 1) (by omega)) rfl ?_   -- 33.6
                  refine V_add (.s _ _ _) rfl rfl (wrap_ok (by omega)) rfl ?_   -- 33.7
                  refine V_add (.s _ _ _) rfl rfl (wrap_ok (by omega)) rfl ?_   -- 33.8
                  refine V_asg (.s _ _ _) rfl rfl ?_   -- 33.9
                  refine V_sub [(0, _), (1, _), (4, _), (5, _), (6, _), (7, _), (8, _), (9, _), (13, _), (14, _), (122, _)] ⟨rfl, rfl, rfl, rfl, rfl, rfl, rfl, rfl, rfl, rfl, rfl, trivial⟩ ?_
                  refine V_nil (.inr ⟨_, rfl⟩) ?_
                  refine E_then ?_
                  refine J_seq ?_
                  refine J_seq ?_
                  refine J_region ?_
                  refine V_mov (.n _) rfl rfl ?_   -- 34.0
                  refine V_len (.n _) Tryd.underlying34 rfl rfl ?_   -- 34.1
                  refine V_mov (.n _) rfl rfl ?_   -- 34.2
                  refine V_sub [(0, _), (1, _), (4, _), (5, _), (6, _), (7, _), (8, _), (9, _), (13, _), (14, _), (122, _), (154, _), (155, _), (156, _)] ⟨rfl, rfl, rfl, rfl, rfl, rfl, rfl, rfl, rfl, rfl, rfl, rfl, rfl, rfl, trivial⟩ ?_
                  refine V_nil (.inl rfl) ?_
                  refine E_then ?_
                  refine J_block ?_
                  -- loop L4
                  refine J_loop (X := Nat) (fun k4 => [(0, (.slice A d.length c)), (1, (.slice AP pi.length cP)), (4, (.int .i64 (0))), (5, (.int .i64 (0))), (6, (.int .i64 ((d.length : Nat) : Int))), (7, .int .i64 (acc + (ys.getD 0 0 + ys.getD 1 0) + ps pi k4)), (8, (.slice (some ⟨bN, 0, none⟩) d.length d.length)), (9, (.slice (some ⟨b44, 0, none⟩) d.length d.length)), (154, (.slice AP pi.length cP)), (155, (.int .i64 ((pi.length : Nat) : Int))), (156, .int .i64 (k4 : Nat))]) (fun k4 => []) (fun k4 => k4 ≤ d.length) (fun k4 => d.length - k4) (0) (by refine ⟨?_, ?_, ?_, ?_, ?_, ?_, ?_, ?_, ?_, ?_, ?_, trivial⟩ <;> first | rfl | exact int_eq (by omega) | exact int_eq (by rw [ps]; omega)) (fun w h => h.sub (fun x hx => by simp at hx) (by simp [keys])) ?_ ?_
                  · omega
                  · rintro k4 hk4
                    have hpsb := ps_bd hpB k4
                    refine J_seq ?_
                    refine J_region ?_
                    refine V_lss (.n _) rfl rfl rfl ?_   -- 35.0
                    refine V_sub [(0, _), (1, _), (4, _), (5, _), (6, _), (7, _), (8, _), (9, _), (154, _), (155, _), (156, _), (157, _)] ⟨rfl, rfl, rfl, rfl, rfl, rfl, rfl, rfl, rfl, rfl, rfl, rfl, trivial⟩ ?_
                    refine V_nil (.inl rfl) ?_
                    refine E_then ?_
                    refine J_seq ?_
                    refine J_cond rfl (fun h13 => ?_) (fun h13 => ?_)   -- C9
                    · skip
                      refine J_skip ?_
                      refine E_then ?_
                      refine J_seq ?_
                      refine J_block ?_
                      refine J_seq ?_
                      refine J_region ?_
                      first | refine V_ix (.n _) Tryd.underlying34 Tryd.sizeOf3 rfl rfl (by omega) (by omega) rfl ?_ | refine V_ixz (.n _) Tryd.underlying34 Tryd.sizeOf3 rfl rfl (hm.rd.pl (by rw [hm.len]; omega)) (by omega) (by omega) rfl ?_ | refine V_ixz (.n _) Tryd.underlying34 Tryd.sizeOf3 rfl rfl (hrrv.pl (by simp)) (by omega) (by omega) rfl ?_ | refine V_ixz (.n _) Tryd.underlying34 Tryd.sizeOf3 rfl rfl (hr.pl (by simp)) (by omega) (by omega) rfl ?_ | refine V_ixz (.n _) Tryd.underlying34 Tryd.sizeOf3 rfl rfl (hrr0.pl (by simp)) (by omega) (by omega) rfl ?_ | refine V_ixz (.n _) Tryd.underlying34 Tryd.sizeOf3 rfl rfl (own_pl hown) (by omega) (by omega) rfl ?_ | refine V_ixz (.n _) Tryd.underlying34 Tryd.sizeOf3 rfl rfl (Pl.own _ _ _) (by omega) (by omega) rfl ?_   -- 36.0
                      refine V_ldz (.n _) Tryd.isAgg3 rfl hr (I_getN (i := k4) (by omega)) rfl ?_   -- 36.1
                      refine V_asg (.n _) rfl rfl ?_   -- 36.2
                      refine V_sub [(0, _), (1, _), (4, _), (5, _), (6, _), (7, _), (8, _), (9, _), (16, _), (154, _), (155, _), (156, _), (157, _)] ⟨rfl, rfl, rfl, rfl, rfl, rfl, rfl, rfl, rfl, rfl, rfl, rfl, rfl, trivial⟩ ?_
                      refine V_nil (.inl rfl) ?_
                      refine E_then ?_
                      refine J_region ?_
                      refine V_mov (.n _) rfl rfl ?_   -- 37.0
                      refine V_mov (.n _) rfl rfl ?_   -- 37.1
                      have hpk := hpB k4
                      refine V_mul (.n _) rfl rfl (wrap_ok (by omega)) rfl ?_   -- 37.2
                      refine V_sub1 (.n _) rfl rfl (wrap_ok (by omega)) rfl ?_   -- 37.3
                      refine V_asg (.n _) rfl rfl ?_   -- 37.4
                      refine V_sub [(0, _), (1, _), (4, _), (5, _), (6, _), (7, _), (8, _), (9, _), (16, _), (154, _), (155, _), (156, _), (157, _)] ⟨rfl, rfl, rfl, rfl, rfl, rfl, rfl, rfl, rfl, rfl, rfl, rfl, rfl, trivial⟩ ?_
                      refine V_nil (.inl rfl) ?_
                      refine E_blk ?_
                      refine E_then ?_
                      refine J_region ?_
                      refine V_add (.n _) rfl rfl (wrap_ok (by omega)) rfl ?_   -- 38.0
                      refine V_mov (.n _) rfl rfl ?_   -- 38.1
                      refine V_sub [(0, _), (1, _), (4, _), (5, _), (6, _), (7, _), (8, _), (9, _), (16, _), (154, _), (155, _), (156, _), (157, _)] ⟨rfl, rfl, rfl, rfl, rfl, rfl, rfl, rfl, rfl, rfl, rfl, rfl, rfl, trivial⟩ ?_
                      refine V_nil (.inl rfl) ?_
                      -- again L4 0
                      refine E_again (k4 + 1) ?_ ?_ ?_ (fun w h => h)
                      · omega
                      · omega
                      · refine ⟨?_, ?_, ?_, ?_, ?_, ?_, ?_, ?_, ?_, ?_, ?_, trivial⟩ <;> first | rfl | exact int_eq (by rw [ps]; omega) | exact int_eq (by omega)
                    · skip
                      refine J_exit ?_
                      refine E_then_exit ?_
                      refine E_lp_exit ?_
                      refine E_blk_hit ?_
                      refine E_then ?_
                      refine J_seq ?_
                      refine J_region ?_
                      refine V_mov (.n _) rfl rfl ?_   -- 39.0
                      refine V_asg (.n _) rfl rfl ?_   -- 39.1
                      refine V_asg (.n _) rfl rfl ?_   -- 39.2
                      refine V_sub [(0, _), (1, _), (4, _), (5, _), (6, _), (7, _), (8, _), (9, _), (154, _), (155, _), (156, _), (157, _)] ⟨rfl, rfl, rfl, rfl, rfl, rfl, rfl, rfl, rfl, rfl, rfl, rfl, trivial⟩ ?_
                      refine V_nil (.inl rfl) ?_
                      refine E_then ?_
                      refine J_ret ?_
                      -- return R4
                      refine E_ret2 Tryd.results46 rfl rfl (fun w hw => ?_)
                      obtain rfl : k4 = d.length := by omega
                      obtain rfl : k3 = d.length - 1 := by omega
                      refine ⟨?_, hw⟩
                      rw [treeR_d hd hpl hpB0, treeV, hT]
                      exact tup_eq (by omega)

end Go.Proofs.YtgeahmmepfmcoaaDoor
