/- parts that the proof of BathTours uses -/
import Derived.Test.YtgeahmmepfmcoaaDoorTours
namespace Go.Proofs.YtgeahmmepfmcoaaDoor
open Go Go.RowKit L
set_option linter.unusedVariables false
set_option linter.unusedSimpArgs false

def wt (d : Rows2) (pi : List Int) (i j : Nat) : Int := cst d i j + pi.getD i 0 + pi.getD j 0
def ps (pi : List Int) : Nat → Int
  | 0 => 0
  | k + 1 => ps pi k - 2 * pi.getD k 0
def okP1 (x : Int) : Bool := decide (-10000 ≤ x) && decide (x ≤ 10000)
def piB (pi : List Int) : Bool := pi.all okP1
theorem okP1_iff {x : Int} : okP1 x = true ↔ -10000 ≤ x ∧ x ≤ 10000 := by simp [okP1]
theorem piB_get {pi : List Int} (h : piB pi = true) {j : Nat} : -10000 ≤ pi.getD j 0 ∧ pi.getD j 0 ≤ 10000 := by
  by_cases hj : j < pi.length
  · exact okP1_iff.1 (List.all_eq_true.1 h _ (getD_mem hj))
  · rw [List.getD_eq_getElem?_getD, List.getElem?_eq_none (by omega)]; simp
theorem piB_of {pi : List Int} (h : ∀ j, j < pi.length → okP1 (pi.getD j 0) = true) : piB pi = true := List.all_eq_true.2 fun x hx => by
  obtain ⟨i, hi, rfl⟩ := List.mem_iff_getElem.1 hx
  have := h i hi
  simpa [hi] using this
theorem piB_not {pi : List Int} {k : Nat} (hk : k < pi.length) (h : pi.getD k 0 < -10000 ∨ 10000 < pi.getD k 0) : piB pi = false := by
  cases hb : piB pi with
  | false => rfl
  | true => have := piB_get hb (j := k); omega
theorem ps_bd {pi : List Int} (h : ∀ j, -10000 ≤ pi.getD j 0 ∧ pi.getD j 0 ≤ 10000) : ∀ k : Nat, -20000 * (k : Int) ≤ ps pi k ∧ ps pi k ≤ 20000 * (k : Int)
  | 0 => by simp [ps]
  | k + 1 => by
    have := ps_bd h k
    have := h k
    rw [ps]; omega
theorem ps_bd2 {pi : List Int} {k : Nat} (h : ∀ j, j < k → okP1 (pi.getD j 0) = true) : -20000 * (k : Int) ≤ ps pi k ∧ ps pi k ≤ 20000 * (k : Int) := by
  induction k with
  | zero => simp [ps]
  | succ k ih =>
    have := ih fun j hj => h j (by omega)
    have := okP1_iff.1 (h k (by omega))
    rw [ps]; omega
def zsT (d : Rows2) (pi : List Int) (k : Nat) : List Int := (List.range k).map fun i => wt d pi 0 (i + 1)
theorem zsT_next (d : Rows2) (pi : List Int) (k : Nat) : zsT d pi (k + 1) = zsT d pi k ++ [wt d pi 0 (k + 1)] := by simp [zsT, List.range_succ]
def twoK (d : Rows2) (pi : List Int) (k : Nat) : Int × Int := twoL (zsT d pi k)
theorem twoK_next (d : Rows2) (pi : List Int) (k : Nat) : twoK d pi (k + 1) = two1 (twoK d pi k) (wt d pi 0 (k + 1)) := by
  unfold twoK
  rw [zsT_next, twoL, List.foldl_append]; rfl
noncomputable def treeT (d : Rows2) (pi : List Int) : Int := Classical.epsilon fun t => ∃ r, Prim d.length (wt d pi) 3 r t
noncomputable def treeV (d : Rows2) (pi : List Int) : Int := treeT d pi + ((twoK d pi (d.length - 1)).1 + (twoK d pi (d.length - 1)).2) + ps pi d.length
noncomputable def treeR (d : Rows2) (pi : List Int) : Int × Int := if distP d = false then (0, 2) else if pi.length ≠ d.length then (0, 3) else if piB pi = false then (0, 2) else (treeV d pi, 0)
theorem treeR_a {d : Rows2} {pi : List Int} (h : distP d = false) : treeR d pi = (0, 2) := by rw [treeR, if_pos h]
theorem treeR_b {d : Rows2} {pi : List Int} (h : DP d) (h2 : pi.length ≠ d.length) : treeR d pi = (0, 3) := by rw [treeR, if_neg (by rw [distP_yes h]; simp), if_pos h2]
theorem treeR_c {d : Rows2} {pi : List Int} (h : DP d) (h2 : pi.length = d.length) (h3 : piB pi = false) : treeR d pi = (0, 2) := by rw [treeR, if_neg (by rw [distP_yes h]; simp), if_neg (fun hh => hh h2), if_pos h3]
theorem treeR_d {d : Rows2} {pi : List Int} (h : DP d) (h2 : pi.length = d.length) (h3 : piB pi = true) : treeR d pi = (treeV d pi, 0) := by rw [treeR, if_neg (by rw [distP_yes h]; simp), if_neg (fun hh => hh h2), if_neg (by rw [h3]; simp)]
theorem wt_sym {d : Rows2} (hd : DP d) (pi : List Int) : ∀ a b, inV d.length a → inV d.length b → wt d pi a b = wt d pi b a := by
  intro a b ha hb
  have := hd.sym a b ha.2 hb.2
  unfold wt; omega
theorem wt_bd {d : Rows2} (hd : DP d) {pi : List Int} (h : ∀ j, -10000 ≤ pi.getD j 0 ∧ pi.getD j 0 ≤ 10000) {a b : Nat} (ha : a < d.length) (hb : b < d.length) : -20000 ≤ wt d pi a b ∧ wt d pi a b ≤ 21000 := by
  have := hd.costs a b ha hb
  have := h a
  have := h b
  unfold wt; omega
theorem treeT_eq {d : Rows2} {pi : List Int} (hd : DP d) {r : Nat} {t : Int} (h : Prim d.length (wt d pi) 3 r t) : treeT d pi = t := by
  have he : ∃ r, Prim d.length (wt d pi) 3 r (treeT d pi) := Classical.epsilon_spec (p := fun t => ∃ r, Prim d.length (wt d pi) 3 r t) ⟨t, r, h⟩
  obtain ⟨r', h'⟩ := he
  exact h'.eq (wt_sym hd pi) h
structure Bst (n : Nat) (w : Nat → Nat → Int) (s i j : Nat) (best to : Int) : Prop where
  le : best ≤ 1099511627776
  lo : -20000 ≤ best
  ex : (best = 1099511627776 ∧ to = 0) ∨ ∃ u v : Nat, inV n u ∧ inV n v ∧ s.testBit u = true ∧ s.testBit v = false ∧ to = v ∧ best = w u v
  all : ∀ a b, inV n a → inV n b → (a < i ∨ (a = i ∧ b < j)) → s.testBit a = true → s.testBit b = false → best ≤ w a b
theorem Bst.zero {n : Nat} {w : Nat → Nat → Int} {s : Nat} : Bst n w s 1 1 1099511627776 0 := ⟨by omega, by omega, .inl ⟨rfl, rfl⟩, fun a b ha hb h => by have := ha.1; have := hb.1; omega⟩
theorem Bst.row {n : Nat} {w : Nat → Nat → Int} {s i j : Nat} {best to : Int} (h : Bst n w s i j best to) (hj : n ≤ j) : Bst n w s (i + 1) 1 best to := ⟨h.le, h.lo, h.ex, fun a b ha hb hh => h.all a b ha hb (by have := hb.1; have := hb.2; omega)⟩
theorem Bst.skip {n : Nat} {w : Nat → Nat → Int} {s i j : Nat} {best to : Int} (h : Bst n w s i j best to) (hs : s.testBit i = true → s.testBit j = false → best ≤ w i j) : Bst n w s i (j + 1) best to := ⟨h.le, h.lo, h.ex, fun a b ha hb hh ha2 hb2 => by
  by_cases e : a = i ∧ b = j
  · obtain ⟨rfl, rfl⟩ := e; exact hs ha2 hb2
  · exact h.all a b ha hb (by omega) ha2 hb2⟩
theorem Bst.take {n : Nat} {w : Nat → Nat → Int} {s i j : Nat} {best to : Int} (h : Bst n w s i j best to) (hi : inV n i) (hj : inV n j) (h1 : s.testBit i = true) (h2 : s.testBit j = false) (hlt : w i j < best) (hlo : -20000 ≤ w i j) : Bst n w s i (j + 1) (w i j) (j : Int) := ⟨by have := h.le; omega, hlo, .inr ⟨i, j, hi, hj, h1, h2, rfl, rfl⟩, fun a b ha hb hh ha2 hb2 => by
  by_cases e : a = i ∧ b = j
  · obtain ⟨rfl, rfl⟩ := e; exact Int.le_refl _
  · have := h.all a b ha hb (by omega) ha2 hb2; omega⟩
theorem Bst.done {n : Nat} {w : Nat → Nat → Int} {s i : Nat} {best to : Int} (h : Bst n w s i 1 best to) (hi : n ≤ i) (h3 : 3 ≤ n) (hs : s < 2 ^ n) (h0 : s.testBit 0 = true) (h1 : s.testBit 1 = true) (hne : s ≠ 2 ^ n - 1) (hw : ∀ a b, a < n → b < n → w a b ≤ 21000) :
    ∃ u v : Nat, inV n u ∧ inV n v ∧ s.testBit u = true ∧ s.testBit v = false ∧ to = v ∧ best = w u v ∧ ∀ a b, inV n a → inV n b → s.testBit a = true → s.testBit b = false → w u v ≤ w a b := by
  obtain ⟨j, hj, hf⟩ := free hs hne
  have hb := fol_not hf
  have hj1 : 1 ≤ j := by
    rcases Nat.eq_zero_or_pos j with e | e
    · subst e; rw [h0] at hb; simp at hb
    · exact e
  have hl := h.all 1 j ⟨by omega, by omega⟩ ⟨hj1, hj⟩ (.inl (by omega)) h1 hb
  have := hw 1 j (by omega) hj
  rcases h.ex with ⟨h1, h2⟩ | ⟨u, v, a1, a2, a3, a4, a5, a6⟩
  · omega
  · exact ⟨u, v, a1, a2, a3, a4, a5, a6, fun a b ha hb h1 h2 => by rw [← a6]; exact h.all a b ha hb (.inl (by have := ha.2; omega)) h1 h2⟩
def Bs (n s : Nat) : List Value := (List.range n).map fun j => .bool (decide (1 ≤ j) && s.testBit j)
@[simp] theorem Bs_length (n s : Nat) : (Bs n s).length = n := by simp [Bs]
theorem Bs_get {n s i : Nat} (h1 : 1 ≤ i) (h : i < n) : (Bs n s)[((i : Nat) : Int).toNat * 1]? = some (.bool (s.testBit i)) := by
  rw [Int.toNat_natCast, Nat.mul_one]
  simp [Bs, h, h1]
theorem Bs_zero (n : Nat) : List.replicate n (Value.bool false) = Bs n 1 := by
  apply List.ext_getElem
  · simp
  · intro i h1 h2
    simp only [List.getElem_replicate, Bs, List.getElem_map, List.getElem_range]
    by_cases h : 1 ≤ i
    · have : (1 : Nat).testBit i = false := by
        rw [show (1 : Nat) = 2 ^ 0 from rfl, Nat.testBit_two_pow]
        simp; omega
      rw [this, Bool.and_false]
    · rw [decide_eq_false h]; rfl
theorem Bs_set {n s i : Nat} (h1 : 1 ≤ i) (h : i < n) : (Bs n s).set i (.bool true) = Bs n (s ||| 2 ^ i) := by
  apply List.ext_getElem
  · simp
  · intro j h2 h3
    rw [List.getElem_set]
    by_cases e : i = j
    · subst e
      rw [if_pos rfl]
      simp [Bs, or_bit, h1]
    · rw [if_neg e]
      simp [Bs, or_bit, e]
theorem pc_three {n : Nat} (h : 3 ≤ n) : pc n 3 = 2 := by
  have e0 : pc n 1 = 1 := by
    have := pc_or (n := n) (s := 0) (j := 0) (by omega) (by simp)
    rw [pc_zero] at this
    simpa using this
  have := pc_or (n := n) (s := 1) (j := 1) (by omega) (by decide)
  rw [e0] at this
  exact this
theorem three_lt {n : Nat} (h : 3 ≤ n) : 3 < 2 ^ n := by
  have : 2 ^ 3 ≤ 2 ^ n := Nat.pow_le_pow_right (by decide) h
  omega
structure Gr (n : Nat) (w : Nat → Nat → Int) (s k : Nat) (acc : Int) : Prop where
  lt : s < 2 ^ n
  b0 : s.testBit 0 = true
  b1 : s.testBit 1 = true
  cnt : pc n s = k + 2
  run : PrimF n w 3 s acc
  lo : -20000 * (k : Int) ≤ acc
  hi : acc ≤ 21000 * (k : Int)
theorem Gr.zero {n : Nat} {w : Nat → Nat → Int} (h : 3 ≤ n) : Gr n w 3 0 0 := ⟨three_lt h, by decide, by decide, by rw [pc_three h], PrimF.start, by omega, by omega⟩
theorem Gr.ne {n : Nat} {w : Nat → Nat → Int} {s k : Nat} {acc : Int} (h : Gr n w s k acc) (hk : k + 2 < n) : s ≠ 2 ^ n - 1 := fun e => by
  have := (pc_full h.lt).2 e
  have := h.cnt
  omega
theorem Gr.next {n : Nat} {w : Nat → Nat → Int} {s k u v : Nat} {acc : Int} (h : Gr n w s k acc) (hu : inV n u) (hv : inV n v) (hsu : s.testBit u = true) (hsv : s.testBit v = false) (hmin : ∀ a b, inV n a → inV n b → s.testBit a = true → s.testBit b = false → w u v ≤ w a b) (h1 : -20000 ≤ w u v ∧ w u v ≤ 21000) : Gr n w (s ||| 2 ^ v) (k + 1) (acc + w u v) := by
  have := h.lo; have := h.hi; have := h.cnt
  have hp := pc_or hv.2 hsv
  exact ⟨or_lt h.lt hv.2, by rw [or_bit, h.b0]; rfl, by rw [or_bit, h.b1]; rfl, by omega, PrimF.step h.run h.lt hu hv hsu hsv hmin, by omega, by omega⟩
theorem Gr.full {d : Rows2} {pi : List Int} {s k : Nat} {acc : Int} (hd : DP d) (h : Gr d.length (wt d pi) s k acc) (hk : k + 2 = d.length) : treeT d pi = acc := by
  have hf := (pc_full h.lt).1 (by rw [h.cnt]; exact hk)
  have hr := h.run
  rw [hf] at hr
  obtain ⟨r, h2⟩ := hr.full
  exact treeT_eq hd h2
theorem tup_eq {a b : Int} (h : a = b) : Ending.returned (Value.tuple #[.int .i64 a, .int .i64 0]) = Ending.returned (Value.tuple #[.int .i64 b, .int .i64 0]) := by rw [h]
theorem two_a {p : Int × Int} {x : Int} (h : x < p.1) : two1 p x = (x, p.1) := by unfold two1; rw [if_pos h]
theorem two_b {p : Int × Int} {x : Int} (h : ¬ x < p.1) (h2 : x < p.2) : two1 p x = (p.1, x) := by unfold two1; rw [if_neg h, if_pos h2]
theorem two_c {p : Int × Int} {x : Int} (h : ¬ x < p.1) (h2 : ¬ x < p.2) : two1 p x = p := by unfold two1; rw [if_neg h, if_neg h2]
theorem twoK_bd {d : Rows2} {pi : List Int} (hw : ∀ j, j < d.length → -20000 ≤ wt d pi 0 j) : ∀ k, k + 1 ≤ d.length → -20000 ≤ (twoK d pi k).1 ∧ (twoK d pi k).1 ≤ 1099511627776 ∧ -20000 ≤ (twoK d pi k).2 ∧ (twoK d pi k).2 ≤ 1099511627776
  | 0, _ => by
    have e : twoK d pi 0 = (far2, far2) := rfl
    have hfar : far2 = 1099511627776 := rfl
    rw [e]; dsimp only; omega
  | k + 1, h => by
    have ih := twoK_bd hw k (by omega)
    have h2 := hw (k + 1) (by omega)
    rw [twoK_next]
    unfold two1
    split
    · dsimp only; omega
    · split
      · dsimp only; omega
      · exact ih

theorem RTree_spec (w : World) (A : Option Addr) (c : Nat) (vs : List Value) (d : Rows2) (hl : d.length ≤ 140737488351232) (hm : Mx w A vs d) (hlr : ∀ r ∈ d, r.length ≤ 140737488351232) (AP : Option Addr) (cP : Nat) (pi : List Int) (hlp : pi.length ≤ 140737488351232) (hr : Rd w AP (I pi)) : Calls Tryd.prog 47 #[.slice A d.length c, .slice AP pi.length cP] w fun e w' => e = .returned (.tuple #[.int .i64 (treeR d pi).1, .int .i64 (treeR d pi).2]) ∧ St w [] w' := by
  refine calls (args := [.slice A d.length c, .slice AP pi.length cP]) Tryd.func47 rfl Tryd.ntmps47 (Nat.le_of_ble_eq_true rfl) (St.refl w) ?_
  refine J_seq ?_
  refine J_region ?_
  refine V_asg (.n _) rfl rfl ?_   -- 0.0
  refine V_asg (.n _) rfl rfl ?_   -- 0.1
  refine V_sub [(0, _), (1, _), (4, _), (5, _)] ⟨rfl, rfl, rfl, rfl, trivial⟩ ?_
  refine V_nil (.inl rfl) ?_
  refine E_then ?_
  refine J_seq ?_
  refine J_seq ?_
  refine J_region ?_
  refine V_mov (.n _) rfl rfl ?_   -- 1.0
  refine V_call0 (.n _) Tryd.call48 (.cons rfl .nil) (fun w1 hw1 => rdist_spec w1 A c vs d hl (hm.keep hw1) hlr) rfl trivial ?_   -- 1.1
  refine V_notB (.n _) rfl rfl ?_   -- 1.2
  refine V_sub [(0, _), (1, _), (4, _), (5, _), (21, _)] ⟨rfl, rfl, rfl, rfl, rfl, trivial⟩ ?_
  refine V_nil (.inl rfl) ?_
  refine E_then ?_
  refine J_condB rfl (fun h1 => ?_) (fun h1 => ?_)   -- C0
  · skip
    refine J_seq ?_
    refine J_region ?_
    refine V_asg (.n _) rfl rfl ?_   -- 2.0
    refine V_asg (.n _) rfl rfl ?_   -- 2.1
    refine V_sub [(0, _), (1, _), (4, _), (5, _), (21, _)] ⟨rfl, rfl, rfl, rfl, rfl, trivial⟩ ?_
    refine V_nil (.inl rfl) ?_
    refine E_then ?_
    refine J_ret ?_
    refine E_then_ret ?_
    -- return R0
    refine E_ret2 Tryd.results47 rfl rfl (fun w hw => ?_)
    exact ⟨by rw [treeR_a (by simpa using ‹(!distP d) = true›)], hw⟩
  · have hd : DP d := distP_iff.1 (by simpa using h1)
    have h9 := hd.n9
    have hn3 := hd.n3
    refine J_skip ?_
    refine E_then ?_
    refine J_seq ?_
    refine J_region ?_
    refine V_mov (.n _) rfl rfl ?_   -- 3.0
    refine V_len (.n _) Tryd.underlying45 rfl rfl ?_   -- 3.1
    refine V_asg (.n _) rfl rfl ?_   -- 3.2
    refine V_sub [(0, _), (1, _), (4, _), (5, _), (6, _), (21, _)] ⟨rfl, rfl, rfl, rfl, rfl, rfl, trivial⟩ ?_
    refine V_nil (.inl rfl) ?_
    refine E_then ?_
    refine J_seq ?_
    refine J_seq ?_
    refine J_region ?_
    refine V_mov (.n _) rfl rfl ?_   -- 4.0
    refine V_len (.n _) Tryd.underlying34 rfl rfl ?_   -- 4.1
    refine V_mov (.n _) rfl rfl ?_   -- 4.2
    refine V_neq (.n _) rfl rfl rfl ?_   -- 4.3
    refine V_sub [(0, _), (1, _), (4, _), (5, _), (6, _), (21, _), (27, _)] ⟨rfl, rfl, rfl, rfl, rfl, rfl, rfl, trivial⟩ ?_
    refine V_nil (.inl rfl) ?_
    refine E_then ?_
    refine J_cond rfl (fun h2 => ?_) (fun h2 => ?_)   -- C1
    · skip
      refine J_seq ?_
      refine J_region ?_
      refine V_asg (.n _) rfl rfl ?_   -- 5.0
      refine V_asg (.n _) rfl rfl ?_   -- 5.1
      refine V_sub [(0, _), (1, _), (4, _), (5, _), (6, _), (21, _), (27, _)] ⟨rfl, rfl, rfl, rfl, rfl, rfl, rfl, trivial⟩ ?_
      refine V_nil (.inl rfl) ?_
      refine E_then ?_
      refine J_ret ?_
      refine E_then_ret ?_
      -- return R1
      refine E_ret2 Tryd.results47 rfl rfl (fun w hw => ?_)
      exact ⟨by rw [treeR_b hd (by omega)], hw⟩
    · skip
      refine J_skip ?_
      refine E_then ?_
      refine J_seq ?_
      refine J_region ?_
      refine V_asg (.n _) rfl rfl ?_   -- 6.0
      refine V_sub [(0, _), (1, _), (4, _), (5, _), (6, _), (7, _), (21, _), (27, _)] ⟨rfl, rfl, rfl, rfl, rfl, rfl, rfl, rfl, trivial⟩ ?_
      refine V_nil (.inl rfl) ?_
      refine E_then ?_
      refine J_seq ?_
      refine J_seq ?_
      refine J_region ?_
      refine V_mov (.n _) rfl rfl ?_   -- 7.0
      refine V_len (.n _) Tryd.underlying34 rfl rfl ?_   -- 7.1
      refine V_mov (.n _) rfl rfl ?_   -- 7.2
      refine V_sub [(0, _), (1, _), (4, _), (5, _), (6, _), (7, _), (21, _), (27, _), (28, _), (29, _), (30, _)] ⟨rfl, rfl, rfl, rfl, rfl, rfl, rfl, rfl, rfl, rfl, rfl, trivial⟩ ?_
      refine V_nil (.inl rfl) ?_
      refine E_then ?_
      refine J_block ?_
      -- loop L0
      refine J_loop (X := Nat) (fun k => [(0, (.slice A d.length c)), (1, (.slice AP pi.length cP)), (6, (.int .i64 ((d.length : Nat) : Int))), (7, .int .i64 (ps pi k)), (28, (.slice AP pi.length cP)), (29, (.int .i64 ((pi.length : Nat) : Int))), (30, .int .i64 (k : Nat))]) (fun k => []) (fun k => k ≤ pi.length ∧ ∀ j, j < k → okP1 (pi.getD j 0) = true) (fun k => pi.length - k) (0) (by refine ⟨?_, ?_, ?_, ?_, ?_, ?_, ?_, trivial⟩ <;> first | rfl | exact int_eq (by omega)) (fun w h => h) ?_ ?_
      · exact ⟨by omega, fun j hj => by omega⟩
      · rintro k ⟨hk, hk2⟩
        have hpsb := ps_bd2 hk2
        refine J_seq ?_
        refine J_region ?_
        refine V_lss (.n _) rfl rfl rfl ?_   -- 8.0
        refine V_sub [(0, _), (1, _), (6, _), (7, _), (28, _), (29, _), (30, _), (31, _)] ⟨rfl, rfl, rfl, rfl, rfl, rfl, rfl, rfl, trivial⟩ ?_
        refine V_nil (.inl rfl) ?_
        refine E_then ?_
        refine J_seq ?_
        refine J_cond rfl (fun h3 => ?_) (fun h3 => ?_)   -- C2
        · skip
          refine J_skip ?_
          refine E_then ?_
          refine J_seq ?_
          refine J_block ?_
          refine J_seq ?_
          refine J_region ?_
          first | refine V_ix (.n _) Tryd.underlying34 Tryd.sizeOf3 rfl rfl (by omega) (by omega) rfl ?_ | refine V_ixz (.n _) Tryd.underlying34 Tryd.sizeOf3 rfl rfl (hm.rd.pl (by rw [hm.len]; omega)) (by omega) (by omega) rfl ?_ | refine V_ixz (.n _) Tryd.underlying34 Tryd.sizeOf3 rfl rfl (hrri.pl (by simp)) (by omega) (by omega) rfl ?_ | refine V_ixz (.n _) Tryd.underlying34 Tryd.sizeOf3 rfl rfl (hr.pl (by simp)) (by omega) (by omega) rfl ?_ | refine V_ixz (.n _) Tryd.underlying34 Tryd.sizeOf3 rfl rfl (hrr0.pl (by simp)) (by omega) (by omega) rfl ?_   -- 9.0
          refine V_ldz (.n _) Tryd.isAgg3 rfl hr (I_getN (i := k) (by omega)) rfl ?_   -- 9.1
          refine V_asg (.n _) rfl rfl ?_   -- 9.2
          refine V_sub [(0, _), (1, _), (6, _), (7, _), (9, _), (28, _), (29, _), (30, _), (31, _)] ⟨rfl, rfl, rfl, rfl, rfl, rfl, rfl, rfl, rfl, trivial⟩ ?_
          refine V_nil (.inl rfl) ?_
          refine E_then ?_
          refine J_seq ?_
          refine J_seq ?_
          refine J_region ?_
          refine V_mov (.n _) rfl rfl ?_   -- 10.0
          refine V_lss (.n _) rfl rfl rfl ?_   -- 10.1
          refine V_mov (.n _) rfl rfl ?_   -- 10.2
          refine V_split 36 rfl (fun h4 => ?_) (fun h4 => ?_)   -- guard 10.2
          · skip
            refine V_pass (.n .p) (2, false) rfl rfl ?_   -- 10.3
            refine V_pass (.n .p) (2, false) rfl rfl ?_   -- 10.4
            refine V_pickT (.n _) rfl rfl rfl ?_   -- 10.5
            refine V_sub [(0, _), (1, _), (6, _), (7, _), (9, _), (28, _), (29, _), (30, _), (31, _), (39, _)] ⟨rfl, rfl, rfl, rfl, rfl, rfl, rfl, rfl, rfl, rfl, trivial⟩ ?_
            refine V_nil (.inl rfl) ?_
            refine E_then ?_
            refine J_condT rfl ?_
            refine J_seq ?_
            refine J_region ?_
            refine V_asg (.n _) rfl rfl ?_   -- 11.0
            refine V_asg (.n _) rfl rfl ?_   -- 11.1
            refine V_sub [(0, _), (1, _), (4, _), (5, _), (6, _), (7, _), (9, _), (28, _), (29, _), (30, _), (31, _), (39, _)] ⟨rfl, rfl, rfl, rfl, rfl, rfl, rfl, rfl, rfl, rfl, rfl, rfl, trivial⟩ ?_
            refine V_nil (.inl rfl) ?_
            refine E_then ?_
            refine J_ret ?_
            refine E_then_ret ?_
            refine E_blk_ret ?_
            refine E_then_ret ?_
            refine E_lp_ret ?_
            refine E_blk_ret ?_
            refine E_then_ret ?_
            -- return R2
            refine E_ret2 Tryd.results47 rfl rfl (fun w hw => ?_)
            exact ⟨by rw [treeR_c hd (by omega) (piB_not (k := k) (by omega) (by omega))], hw⟩
          · skip
            refine V_go (2, false) rfl ?_
            refine V_mov (.n _) rfl rfl ?_   -- 10.3
            refine V_go (2, false) rfl ?_
            refine V_gtr (.n _) rfl rfl rfl ?_   -- 10.4
            refine V_pickF (.n _) rfl rfl rfl ?_   -- 10.5
            refine V_sub [(0, _), (1, _), (6, _), (7, _), (9, _), (28, _), (29, _), (30, _), (31, _), (39, _)] ⟨rfl, rfl, rfl, rfl, rfl, rfl, rfl, rfl, rfl, rfl, trivial⟩ ?_
            refine V_nil (.inl rfl) ?_
            refine E_then ?_
            refine J_cond rfl (fun h5 => ?_) (fun h5 => ?_)   -- C3
            · skip
              refine J_seq ?_
              refine J_region ?_
              refine V_asg (.n _) rfl rfl ?_   -- 11.0
              refine V_asg (.n _) rfl rfl ?_   -- 11.1
              refine V_sub [(0, _), (1, _), (4, _), (5, _), (6, _), (7, _), (9, _), (28, _), (29, _), (30, _), (31, _), (39, _)] ⟨rfl, rfl, rfl, rfl, rfl, rfl, rfl, rfl, rfl, rfl, rfl, rfl, trivial⟩ ?_
              refine V_nil (.inl rfl) ?_
              refine E_then ?_
              refine J_ret ?_
              refine E_then_ret ?_
              refine E_blk_ret ?_
              refine E_then_ret ?_
              refine E_lp_ret ?_
              refine E_blk_ret ?_
              refine E_then_ret ?_
              -- return R3
              refine E_ret2 Tryd.results47 rfl rfl (fun w hw => ?_)
              exact ⟨by rw [treeR_c hd (by omega) (piB_not (k := k) (by omega) (by omega))], hw⟩
            · skip
              refine J_skip ?_
              refine E_then ?_
              refine J_region ?_
              refine V_mov (.n _) rfl rfl ?_   -- 12.0
              refine V_mov (.n _) rfl rfl ?_   -- 12.1
              refine V_mul (.n _) rfl rfl (wrap_ok (by omega)) rfl ?_   -- 12.2
              refine V_sub1 (.n _) rfl rfl (wrap_ok (by omega)) rfl ?_   -- 12.3
              refine V_asg (.n _) rfl rfl ?_   -- 12.4
              refine V_sub [(0, _), (1, _), (6, _), (7, _), (9, _), (28, _), (29, _), (30, _), (31, _), (39, _)] ⟨rfl, rfl, rfl, rfl, rfl, rfl, rfl, rfl, rfl, rfl, trivial⟩ ?_
              refine V_nil (.inl rfl) ?_
              refine E_blk ?_
              refine E_then ?_
              refine J_region ?_
              refine V_add (.n _) rfl rfl (wrap_ok (by omega)) rfl ?_   -- 13.0
              refine V_mov (.n _) rfl rfl ?_   -- 13.1
              refine V_sub [(0, _), (1, _), (6, _), (7, _), (9, _), (28, _), (29, _), (30, _), (31, _), (39, _)] ⟨rfl, rfl, rfl, rfl, rfl, rfl, rfl, rfl, rfl, rfl, trivial⟩ ?_
              refine V_nil (.inl rfl) ?_
              -- again L0 0
              refine E_again (k + 1) ?_ ?_ ?_ (fun w h => h)
              · omega
              · refine ⟨by omega, fun j hj => ?_⟩
                by_cases e : j = k
                · subst e; exact okP1_iff.2 ⟨by omega, by omega⟩
                · exact hk2 j (by omega)
              · refine ⟨?_, ?_, ?_, ?_, ?_, ?_, ?_, trivial⟩ <;> first | rfl | exact int_eq (by omega) | exact int_eq (by dsimp only; omega)
        · skip
          refine J_exit ?_
          refine E_then_exit ?_
          refine E_lp_exit ?_
          refine E_blk_hit ?_
          refine E_then ?_
          refine J_seq ?_
          refine J_region ?_
          refine V_mov (.n _) rfl rfl ?_   -- 14.0
          refine V_make1 (.n _) Tryd.underlying117 Tryd.typeInfo4 rfl rfl rfl rfl rfl rfl (by omega) rfl (fun _ => trivial) (fun b46 => ?_)   -- 14.1
          rw [Bs_zero]
          refine V_asg (.n _) rfl rfl ?_   -- 14.2
          refine V_sub [(0, _), (1, _), (6, _), (7, _), (10, _), (28, _), (29, _), (30, _), (31, _)] ⟨rfl, rfl, rfl, rfl, rfl, rfl, rfl, rfl, rfl, trivial⟩ ?_
          refine V_nil (.inl rfl) ?_
          refine E_then ?_
          refine J_seq ?_
          refine J_region ?_
          refine V_mov (.n _) rfl rfl ?_   -- 15.0
          first | refine V_ix (.n _) Tryd.underlying117 Tryd.sizeOf4 rfl rfl (by omega) (by omega) rfl ?_ | refine V_ixz (.n _) Tryd.underlying117 Tryd.sizeOf4 rfl rfl (hm.rd.pl (by rw [hm.len]; omega)) (by omega) (by omega) rfl ?_ | refine V_ixz (.n _) Tryd.underlying117 Tryd.sizeOf4 rfl rfl (hrri.pl (by simp)) (by omega) (by omega) rfl ?_ | refine V_ixz (.n _) Tryd.underlying117 Tryd.sizeOf4 rfl rfl (hr.pl (by simp)) (by omega) (by omega) rfl ?_ | refine V_ixz (.n _) Tryd.underlying117 Tryd.sizeOf4 rfl rfl (hrr0.pl (by simp)) (by omega) (by omega) rfl ?_   -- 15.1
          refine V_st (cs' := Bs d.length 3) (.n _) Tryd.sizeOf4 rfl rfl rfl .z (by exact Bs_set (s := 1) (by omega) (by omega)) (by simp; omega) ?_   -- 15.2
          refine V_sub [(0, _), (1, _), (6, _), (7, _), (10, _), (28, _), (29, _), (30, _), (31, _)] ⟨rfl, rfl, rfl, rfl, rfl, rfl, rfl, rfl, rfl, trivial⟩ ?_
          refine V_nil (.inl rfl) ?_
          refine E_then ?_
          refine J_seq ?_
          refine J_seq ?_
          refine J_region ?_
          refine V_mov (.n _) rfl rfl ?_   -- 16.0
          refine V_sub1 (.n _) rfl rfl (wrap_ok (by omega)) rfl ?_   -- 16.1
          refine V_mov (.n _) rfl rfl ?_   -- 16.2
          refine V_sub [(0, _), (1, _), (6, _), (7, _), (10, _), (28, _), (29, _), (30, _), (31, _), (50, _), (51, _)] ⟨rfl, rfl, rfl, rfl, rfl, rfl, rfl, rfl, rfl, rfl, rfl, trivial⟩ ?_
          refine V_nil (.inl rfl) ?_
          refine E_then ?_
          refine J_block ?_
          -- loop L1
          have hpB0 : piB pi = true := piB_of fun j hj => hk2 j (by omega)
          have hpB := fun j => piB_get (j := j) hpB0
          obtain rfl : k = d.length := by omega
          clear hk2
          refine J_loop (X := Nat × Nat × Int) (fun x => [(0, (.slice A d.length c)), (1, (.slice AP pi.length cP)), (6, (.int .i64 ((d.length : Nat) : Int))), (7, .int .i64 (ps pi d.length + x.2.2)), (10, (.slice (some ⟨b46, 0, none⟩) d.length d.length)), (50, (.int .i64 ((d.length : Nat) - 2 : Int))), (51, .int .i64 (x.1 : Nat))]) (fun x => [.c b46 4 (Bs d.length x.2.1)]) (fun x => x.1 + 2 ≤ d.length ∧ Gr d.length (wt d pi) x.2.1 x.1 x.2.2) (fun x => d.length - x.1) (0, 3, 0) (by refine ⟨?_, ?_, ?_, ?_, ?_, ?_, ?_, trivial⟩ <;> first | rfl | exact int_eq (by omega) | exact int_eq (by dsimp only; omega)) (fun w h => h) ?_ ?_
          · exact ⟨by omega, Gr.zero hn3⟩
          · rintro ⟨k2, s, acc⟩ ⟨hk2, hG⟩
            dsimp only at hk2 hG ⊢
            have hlo := hG.lo
            have hhi := hG.hi
            refine J_seq ?_
            refine J_region ?_
            refine V_lss (.n _) rfl rfl rfl ?_   -- 17.0
            refine V_sub [(0, _), (1, _), (6, _), (7, _), (10, _), (50, _), (51, _), (52, _)] ⟨rfl, rfl, rfl, rfl, rfl, rfl, rfl, rfl, trivial⟩ ?_
            refine V_nil (.inl rfl) ?_
            refine E_then ?_
            refine J_seq ?_
            refine J_cond rfl (fun h6 => ?_) (fun h6 => ?_)   -- C4
            · skip
              refine J_skip ?_
              refine E_then ?_
              refine J_seq ?_
              refine J_block ?_
              refine J_seq ?_
              refine J_region ?_
              refine V_asg (.n _) rfl rfl ?_   -- 18.0
              refine V_asg (.n _) rfl rfl ?_   -- 18.1
              refine V_sub [(0, _), (1, _), (6, _), (7, _), (10, _), (11, _), (12, _), (50, _), (51, _), (52, _)] ⟨rfl, rfl, rfl, rfl, rfl, rfl, rfl, rfl, rfl, rfl, trivial⟩ ?_
              refine V_nil (.inl rfl) ?_
              refine E_then ?_
              refine J_seq ?_
              refine J_seq ?_
              refine J_region ?_
              refine V_asg (.n _) rfl rfl ?_   -- 19.0
              refine V_sub [(0, _), (1, _), (6, _), (7, _), (10, _), (11, _), (12, _), (13, _), (50, _), (51, _), (52, _)] ⟨rfl, rfl, rfl, rfl, rfl, rfl, rfl, rfl, rfl, rfl, rfl, trivial⟩ ?_
              refine V_nil (.inl rfl) ?_
              refine E_then ?_
              refine J_block ?_
              -- loop L2
              refine J_loop (X := Nat × Int × Int) (fun x => [(0, (.slice A d.length c)), (1, (.slice AP pi.length cP)), (6, (.int .i64 ((d.length : Nat) : Int))), (7, .int .i64 (ps pi d.length + acc)), (10, (.slice (some ⟨b46, 0, none⟩) d.length d.length)), (11, .int .i64 x.2.1), (12, .int .i64 x.2.2), (13, .int .i64 (x.1 : Nat)), (50, (.int .i64 ((d.length : Nat) - 2 : Int))), (51, .int .i64 (k2 : Nat))]) (fun x => [.c b46 4 (Bs d.length s)]) (fun x => 1 ≤ x.1 ∧ x.1 ≤ d.length ∧ Bst d.length (wt d pi) s x.1 1 x.2.1 x.2.2) (fun x => d.length - x.1) (1, 1099511627776, 0) (by refine ⟨?_, ?_, ?_, ?_, ?_, ?_, ?_, ?_, ?_, ?_, trivial⟩ <;> first | rfl | exact int_eq (by omega)) (fun w h => h) ?_ ?_
              · exact ⟨by omega, by omega, Bst.zero⟩
              · rintro ⟨i, bs2, to2⟩ ⟨hi1, hi, hB⟩
                dsimp only at hi1 hi hB ⊢
                refine J_seq ?_
                refine J_seq ?_
                refine J_region ?_
                refine V_mov (.n _) rfl rfl ?_   -- 20.0
                refine V_mov (.n _) rfl rfl ?_   -- 20.1
                refine V_lss (.n _) rfl rfl rfl ?_   -- 20.2
                refine V_sub [(0, _), (1, _), (6, _), (7, _), (10, _), (11, _), (12, _), (13, _), (50, _), (51, _), (55, _)] ⟨rfl, rfl, rfl, rfl, rfl, rfl, rfl, rfl, rfl, rfl, rfl, trivial⟩ ?_
                refine V_nil (.inl rfl) ?_
                refine E_then ?_
                refine J_cond rfl (fun h7 => ?_) (fun h7 => ?_)   -- C5
                · obtain ⟨Ai, ci, hrowi, hrri⟩ := hm.get (i := i) (by omega)
                  have hrl := (hd.row (show i < d.length by omega)).1
                  refine J_skip ?_
                  refine E_then ?_
                  refine J_seq ?_
                  refine J_block ?_
                  refine J_seq ?_
                  refine J_region ?_
                  refine V_asg (.n _) rfl rfl ?_   -- 22.0
                  refine V_sub [(0, _), (1, _), (6, _), (7, _), (10, _), (11, _), (12, _), (13, _), (14, _), (50, _), (51, _), (55, _)] ⟨rfl, rfl, rfl, rfl, rfl, rfl, rfl, rfl, rfl, rfl, rfl, rfl, trivial⟩ ?_
                  refine V_nil (.inl rfl) ?_
                  refine E_then ?_
                  refine J_block ?_
                  -- loop L3
                  refine J_loop (X := Nat × Int × Int) (fun x => [(0, (.slice A d.length c)), (1, (.slice AP pi.length cP)), (6, (.int .i64 ((d.length : Nat) : Int))), (7, .int .i64 (ps pi d.length + acc)), (10, (.slice (some ⟨b46, 0, none⟩) d.length d.length)), (11, .int .i64 x.2.1), (12, .int .i64 x.2.2), (13, .int .i64 (i : Nat)), (14, .int .i64 (x.1 : Nat)), (50, (.int .i64 ((d.length : Nat) - 2 : Int))), (51, .int .i64 (k2 : Nat))]) (fun x => [.c b46 4 (Bs d.length s)]) (fun x => 1 ≤ x.1 ∧ x.1 ≤ d.length ∧ Bst d.length (wt d pi) s i x.1 x.2.1 x.2.2) (fun x => d.length - x.1) (1, bs2, to2) (by refine ⟨?_, ?_, ?_, ?_, ?_, ?_, ?_, ?_, ?_, ?_, ?_, trivial⟩ <;> first | rfl | exact int_eq (by omega)) (fun w h => h) ?_ ?_
                  · exact ⟨by omega, by omega, hB⟩
                  · rintro ⟨j, bs, to⟩ ⟨hj1, hj, hB3⟩
                    dsimp only at hj1 hj hB3 ⊢
                    have hble := hB3.le
                    have hblo := hB3.lo
                    refine J_seq ?_
                    refine J_seq ?_
                    refine J_region ?_
                    refine V_mov (.n _) rfl rfl ?_   -- 23.0
                    refine V_mov (.n _) rfl rfl ?_   -- 23.1
                    refine V_lss (.n _) rfl rfl rfl ?_   -- 23.2
                    refine V_sub [(0, _), (1, _), (6, _), (7, _), (10, _), (11, _), (12, _), (13, _), (14, _), (50, _), (51, _), (60, _)] ⟨rfl, rfl, rfl, rfl, rfl, rfl, rfl, rfl, rfl, rfl, rfl, rfl, trivial⟩ ?_
                    refine V_nil (.inl rfl) ?_
                    refine E_then ?_
                    refine J_cond rfl (fun h8 => ?_) (fun h8 => ?_)   -- C6
                    · skip
                      refine J_skip ?_
                      refine E_then ?_
                      refine J_seq ?_
                      refine J_block ?_
                      refine J_seq ?_
                      refine J_draw (Gs := _) (cl := [.p, .p, .p, .r, .p, .p, .p, .p, .r, .p, .p, .p, .p, .p, .p, .r, .p, .p, .r, .p, .p, .p, .r, .p, .p, .p, .p, .r, .p, .p, .p, .p]) (by kernel_rfl) (fun _ _ h => h) ?_
                      refine V_mov (.s _ _ _) rfl rfl ?_   -- 25.0
                      refine V_mov (.s _ _ _) rfl rfl ?_   -- 25.1
                      first | refine V_ix (.s _ _ _) Tryd.underlying117 Tryd.sizeOf4 rfl rfl (by omega) (by omega) rfl ?_ | refine V_ixz (.s _ _ _) Tryd.underlying117 Tryd.sizeOf4 rfl rfl (hm.rd.pl (by rw [hm.len]; omega)) (by omega) (by omega) rfl ?_ | refine V_ixz (.s _ _ _) Tryd.underlying117 Tryd.sizeOf4 rfl rfl (hrri.pl (by simp)) (by omega) (by omega) rfl ?_ | refine V_ixz (.s _ _ _) Tryd.underlying117 Tryd.sizeOf4 rfl rfl (hr.pl (by simp)) (by omega) (by omega) rfl ?_ | refine V_ixz (.s _ _ _) Tryd.underlying117 Tryd.sizeOf4 rfl rfl (hrr0.pl (by simp)) (by omega) (by omega) rfl ?_   -- 25.2
                      refine V_ld (.s _ _ _) Tryd.isAgg4 rfl (by repeat (first | exact List.Mem.head _ | assumption | apply List.Mem.tail | apply List.mem_append_right)) (Bs_get (i := i) (by omega) (by omega)) rfl ?_   -- 25.3
                      refine V_mov (.s _ _ _) rfl rfl ?_   -- 25.4
                      refine V_splitB 67 rfl (fun h9 => ?_) (fun h9 => ?_)   -- guard 25.4
                      · skip
                        refine V_go (4, true) rfl ?_
                        refine V_mov (.s _ _ _) rfl rfl ?_   -- 25.5
                        refine V_go (4, true) rfl ?_
                        refine V_mov (.s _ _ _) rfl rfl ?_   -- 25.6
                        refine V_go (4, true) rfl ?_
                        first | refine V_ix (.s _ _ _) Tryd.underlying117 Tryd.sizeOf4 rfl rfl (by omega) (by omega) rfl ?_ | refine V_ixz (.s _ _ _) Tryd.underlying117 Tryd.sizeOf4 rfl rfl (hm.rd.pl (by rw [hm.len]; omega)) (by omega) (by omega) rfl ?_ | refine V_ixz (.s _ _ _) Tryd.underlying117 Tryd.sizeOf4 rfl rfl (hrri.pl (by simp)) (by omega) (by omega) rfl ?_ | refine V_ixz (.s _ _ _) Tryd.underlying117 Tryd.sizeOf4 rfl rfl (hr.pl (by simp)) (by omega) (by omega) rfl ?_ | refine V_ixz (.s _ _ _) Tryd.underlying117 Tryd.sizeOf4 rfl rfl (hrr0.pl (by simp)) (by omega) (by omega) rfl ?_   -- 25.7
                        refine V_go (4, true) rfl ?_
                        refine V_ld (.s _ _ _) Tryd.isAgg4 rfl (by repeat (first | exact List.Mem.head _ | assumption | apply List.Mem.tail | apply List.mem_append_right)) (Bs_get (i := j) (by omega) (by omega)) rfl ?_   -- 25.8
                        refine V_go (4, true) rfl ?_
                        refine V_notB (.s _ _ _) rfl rfl ?_   -- 25.9
                        refine V_pickT (.s _ _ _) rfl rfl rfl ?_   -- 25.10
                        refine V_mov (.s _ _ _) rfl rfl ?_   -- 25.11
                        refine V_splitB 74 rfl (fun h10 => ?_) (fun h10 => ?_)   -- guard 25.11
                        · skip
                          refine V_go (11, true) rfl ?_
                          refine V_mov (.s _ _ _) rfl rfl ?_   -- 25.12
                          refine V_go (11, true) rfl ?_
                          refine V_mov (.s _ _ _) rfl rfl ?_   -- 25.13
                          refine V_go (11, true) rfl ?_
                          first | refine V_ix (.s _ _ _) Tryd.underlying45 Tryd.sizeOf34 rfl rfl (by omega) (by omega) rfl ?_ | refine V_ixz (.s _ _ _) Tryd.underlying45 Tryd.sizeOf34 rfl rfl (hm.rd.pl (by rw [hm.len]; omega)) (by omega) (by omega) rfl ?_ | refine V_ixz (.s _ _ _) Tryd.underlying45 Tryd.sizeOf34 rfl rfl (hrri.pl (by simp)) (by omega) (by omega) rfl ?_ | refine V_ixz (.s _ _ _) Tryd.underlying45 Tryd.sizeOf34 rfl rfl (hr.pl (by simp)) (by omega) (by omega) rfl ?_ | refine V_ixz (.s _ _ _) Tryd.underlying45 Tryd.sizeOf34 rfl rfl (hrr0.pl (by simp)) (by omega) (by omega) rfl ?_   -- 25.14
                          refine V_go (11, true) rfl ?_
                          refine V_ldz (.s _ _ _) Tryd.isAgg34 rfl hm.rd hrowi rfl ?_   -- 25.15
                          refine V_go (11, true) rfl ?_
                          refine V_mov (.s _ _ _) rfl rfl ?_   -- 25.16
                          refine V_go (11, true) rfl ?_
                          first | refine V_ix (.s _ _ _) Tryd.underlying34 Tryd.sizeOf3 rfl rfl (by omega) (by omega) rfl ?_ | refine V_ixz (.s _ _ _) Tryd.underlying34 Tryd.sizeOf3 rfl rfl (hm.rd.pl (by rw [hm.len]; omega)) (by omega) (by omega) rfl ?_ | refine V_ixz (.s _ _ _) Tryd.underlying34 Tryd.sizeOf3 rfl rfl (hrri.pl (by simp)) (by omega) (by omega) rfl ?_ | refine V_ixz (.s _ _ _) Tryd.underlying34 Tryd.sizeOf3 rfl rfl (hr.pl (by simp)) (by omega) (by omega) rfl ?_ | refine V_ixz (.s _ _ _) Tryd.underlying34 Tryd.sizeOf3 rfl rfl (hrr0.pl (by simp)) (by omega) (by omega) rfl ?_   -- 25.17
                          refine V_go (11, true) rfl ?_
                          have hcj := hd.costs i j (by omega) (by omega)
                          unfold cst at hcj
                          have hpi := hpB i
                          have hpj := hpB j
                          have hwe : wt d pi i j = (d.getD i []).getD j 0 + pi.getD i 0 + pi.getD j 0 := rfl
                          refine V_ldz (.s _ _ _) Tryd.isAgg3 rfl hrri (I_getN (i := j) (by omega)) rfl ?_   -- 25.18
                          refine V_go (11, true) rfl ?_
                          refine V_mov (.s _ _ _) rfl rfl ?_   -- 25.19
                          refine V_go (11, true) rfl ?_
                          refine V_mov (.s _ _ _) rfl rfl ?_   -- 25.20
                          refine V_go (11, true) rfl ?_
                          first | refine V_ix (.s _ _ _) Tryd.underlying34 Tryd.sizeOf3 rfl rfl (by omega) (by omega) rfl ?_ | refine V_ixz (.s _ _ _) Tryd.underlying34 Tryd.sizeOf3 rfl rfl (hm.rd.pl (by rw [hm.len]; omega)) (by omega) (by omega) rfl ?_ | refine V_ixz (.s _ _ _) Tryd.underlying34 Tryd.sizeOf3 rfl rfl (hrri.pl (by simp)) (by omega) (by omega) rfl ?_ | refine V_ixz (.s _ _ _) Tryd.underlying34 Tryd.sizeOf3 rfl rfl (hr.pl (by simp)) (by omega) (by omega) rfl ?_ | refine V_ixz (.s _ _ _) Tryd.underlying34 Tryd.sizeOf3 rfl rfl (hrr0.pl (by simp)) (by omega) (by omega) rfl ?_   -- 25.21
                          refine V_go (11, true) rfl ?_
                          refine V_ldz (.s _ _ _) Tryd.isAgg3 rfl hr (I_getN (i := i) (by omega)) rfl ?_   -- 25.22
                          refine V_go (11, true) rfl ?_
                          refine V_add (.s _ _ _) rfl rfl (wrap_ok (by omega)) rfl ?_   -- 25.23
                          refine V_go (11, true) rfl ?_
                          refine V_mov (.s _ _ _) rfl rfl ?_   -- 25.24
                          refine V_go (11, true) rfl ?_
                          refine V_mov (.s _ _ _) rfl rfl ?_   -- 25.25
                          refine V_go (11, true) rfl ?_
                          first | refine V_ix (.s _ _ _) Tryd.underlying34 Tryd.sizeOf3 rfl rfl (by omega) (by omega) rfl ?_ | refine V_ixz (.s _ _ _) Tryd.underlying34 Tryd.sizeOf3 rfl rfl (hm.rd.pl (by rw [hm.len]; omega)) (by omega) (by omega) rfl ?_ | refine V_ixz (.s _ _ _) Tryd.underlying34 Tryd.sizeOf3 rfl rfl (hrri.pl (by simp)) (by omega) (by omega) rfl ?_ | refine V_ixz (.s _ _ _) Tryd.underlying34 Tryd.sizeOf3 rfl rfl (hr.pl (by simp)) (by omega) (by omega) rfl ?_ | refine V_ixz (.s _ _ _) Tryd.underlying34 Tryd.sizeOf3 rfl rfl (hrr0.pl (by simp)) (by omega) (by omega) rfl ?_   -- 25.26
                          refine V_go (11, true) rfl ?_
                          refine V_ldz (.s _ _ _) Tryd.isAgg3 rfl hr (I_getN (i := j) (by omega)) rfl ?_   -- 25.27
                          refine V_go (11, true) rfl ?_
                          refine V_add (.s _ _ _) rfl rfl (wrap_ok (by omega)) rfl ?_   -- 25.28
                          refine V_go (11, true) rfl ?_
                          refine V_mov (.s _ _ _) rfl rfl ?_   -- 25.29
                          refine V_go (11, true) rfl ?_
                          refine V_lss (.s _ _ _) rfl rfl rfl ?_   -- 25.30
                          refine V_pickT (.s _ _ _) rfl rfl rfl ?_   -- 25.31
                          refine V_sub [(0, _), (1, _), (6, _), (7, _), (10, _), (11, _), (12, _), (13, _), (14, _), (50, _), (51, _), (60, _), (94, _)] ⟨rfl, rfl, rfl, rfl, rfl, rfl, rfl, rfl, rfl, rfl, rfl, rfl, rfl, trivial⟩ ?_
                          refine V_nil (.inr ⟨_, rfl⟩) ?_
                          refine E_then ?_
                          refine J_cond rfl (fun h11 => ?_) (fun h11 => ?_)   -- C7
                          · skip
                            refine J_drawG [0, 0, 1, 2, 0, 3, 4, 0, 0, 1, 2, 5, 0, 0, 1, 2, 6, 8, 7, 9] (Gs := _) (cl := [.p, .p, .p, .r, .p, .p, .r, .p, .p, .p, .r, .p, .p, .p, .p, .r, .p, .p, .p, .p]) (by kernel_rfl) (fun _ _ h => h) ?_
                            refine V_mov (.s _ _ _) rfl rfl ?_   -- 26.0
                            refine V_mov (.s _ _ _) rfl rfl ?_   -- 26.1
                            first | refine V_ix (.s _ _ _) Tryd.underlying45 Tryd.sizeOf34 rfl rfl (by omega) (by omega) rfl ?_ | refine V_ixz (.s _ _ _) Tryd.underlying45 Tryd.sizeOf34 rfl rfl (hm.rd.pl (by rw [hm.len]; omega)) (by omega) (by omega) rfl ?_ | refine V_ixz (.s _ _ _) Tryd.underlying45 Tryd.sizeOf34 rfl rfl (hrri.pl (by simp)) (by omega) (by omega) rfl ?_ | refine V_ixz (.s _ _ _) Tryd.underlying45 Tryd.sizeOf34 rfl rfl (hr.pl (by simp)) (by omega) (by omega) rfl ?_ | refine V_ixz (.s _ _ _) Tryd.underlying45 Tryd.sizeOf34 rfl rfl (hrr0.pl (by simp)) (by omega) (by omega) rfl ?_   -- 26.2
                            refine V_ldz (.s _ _ _) Tryd.isAgg34 rfl hm.rd hrowi rfl ?_   -- 26.3
                            refine V_mov (.s _ _ _) rfl rfl ?_   -- 26.4
                            first | refine V_ix (.s _ _ _) Tryd.underlying34 Tryd.sizeOf3 rfl rfl (by omega) (by omega) rfl ?_ | refine V_ixz (.s _ _ _) Tryd.underlying34 Tryd.sizeOf3 rfl rfl (hm.rd.pl (by rw [hm.len]; omega)) (by omega) (by omega) rfl ?_ | refine V_ixz (.s _ _ _) Tryd.underlying34 Tryd.sizeOf3 rfl rfl (hrri.pl (by simp)) (by omega) (by omega) rfl ?_ | refine V_ixz (.s _ _ _) Tryd.underlying34 Tryd.sizeOf3 rfl rfl (hr.pl (by simp)) (by omega) (by omega) rfl ?_ | refine V_ixz (.s _ _ _) Tryd.underlying34 Tryd.sizeOf3 rfl rfl (hrr0.pl (by simp)) (by omega) (by omega) rfl ?_   -- 26.5
                            refine V_ldz (.s _ _ _) Tryd.isAgg3 rfl hrri (I_getN (i := j) (by omega)) rfl ?_   -- 26.6
                            refine V_mov (.s _ _ _) rfl rfl ?_   -- 26.7
                            refine V_mov (.s _ _ _) rfl rfl ?_   -- 26.8
                            first | refine V_ix (.s _ _ _) Tryd.underlying34 Tryd.sizeOf3 rfl rfl (by omega) (by omega) rfl ?_ | refine V_ixz (.s _ _ _) Tryd.underlying34 Tryd.sizeOf3 rfl rfl (hm.rd.pl (by rw [hm.len]; omega)) (by omega) (by omega) rfl ?_ | refine V_ixz (.s _ _ _) Tryd.underlying34 Tryd.sizeOf3 rfl rfl (hrri.pl (by simp)) (by omega) (by omega) rfl ?_ | refine V_ixz (.s _ _ _) Tryd.underlying34 Tryd.sizeOf3 rfl rfl (hr.pl (by simp)) (by omega) (by omega) rfl ?_ | refine V_ixz (.s _ _ _) Tryd.underlying34 Tryd.sizeOf3 rfl rfl (hrr0.pl (by simp)) (by omega) (by omega) rfl ?_   -- 26.9
                            refine V_ldz (.s _ _ _) Tryd.isAgg3 rfl hr (I_getN (i := i) (by omega)) rfl ?_   -- 26.10
                            refine V_add (.s _ _ _) rfl rfl (wrap_ok (by omega)) rfl ?_   -- 26.11
                            refine V_mov (.s _ _ _) rfl rfl ?_   -- 26.12
                            refine V_mov (.s _ _ _) rfl rfl ?_   -- 26.13
                            first | refine V_ix (.s _ _ _) Tryd.underlying34 Tryd.sizeOf3 rfl rfl (by omega) (by omega) rfl ?_ | refine V_ixz (.s _ _ _) Tryd.underlying34 Tryd.sizeOf3 rfl rfl (hm.rd.pl (by rw [hm.len]; omega)) (by omega) (by omega) rfl ?_ | refine V_ixz (.s _ _ _) Tryd.underlying34 Tryd.sizeOf3 rfl rfl (hrri.pl (by simp)) (by omega) (by omega) rfl ?_ | refine V_ixz (.s _ _ _) Tryd.underlying34 Tryd.sizeOf3 rfl rfl (hr.pl (by simp)) (by omega) (by omega) rfl ?_ | refine V_ixz (.s _ _ _) Tryd.underlying34 Tryd.sizeOf3 rfl rfl (hrr0.pl (by simp)) (by omega) (by omega) rfl ?_   -- 26.14
                            refine V_ldz (.s _ _ _) Tryd.isAgg3 rfl hr (I_getN (i := j) (by omega)) rfl ?_   -- 26.15
                            refine V_add (.s _ _ _) rfl rfl (wrap_ok (by omega)) rfl ?_   -- 26.16
                            refine V_mov (.s _ _ _) rfl rfl ?_   -- 26.17
                            refine V_asg (.s _ _ _) rfl rfl ?_   -- 26.18
                            refine V_asg (.s _ _ _) rfl rfl ?_   -- 26.19
                            refine V_sub [(0, _), (1, _), (6, _), (7, _), (10, _), (11, _), (12, _), (13, _), (14, _), (50, _), (51, _), (60, _), (94, _)] ⟨rfl, rfl, rfl, rfl, rfl, rfl, rfl, rfl, rfl, rfl, rfl, rfl, rfl, trivial⟩ ?_
                            refine V_nil (.inr ⟨_, rfl⟩) ?_
                            refine E_blk ?_
                            refine E_then ?_
                            refine J_region ?_
                            refine V_mov (.n _) rfl rfl ?_   -- 24.0
                            refine V_add (.n _) rfl rfl (wrap_ok (by omega)) rfl ?_   -- 24.1
                            refine V_asg (.n _) rfl rfl ?_   -- 24.2
                            refine V_sub [(0, _), (1, _), (6, _), (7, _), (10, _), (11, _), (12, _), (13, _), (14, _), (50, _), (51, _), (60, _), (94, _)] ⟨rfl, rfl, rfl, rfl, rfl, rfl, rfl, rfl, rfl, rfl, rfl, rfl, rfl, trivial⟩ ?_
                            refine V_nil (.inl rfl) ?_
                            -- again L3 0
                            refine E_again (X := Nat × Int × Int) (KI := fun x => [(0, (.slice A d.length c)), (1, (.slice AP pi.length cP)), (6, (.int .i64 ((d.length : Nat) : Int))), (7, .int .i64 (ps pi d.length + acc)), (10, (.slice (some ⟨b46, 0, none⟩) d.length d.length)), (11, .int .i64 x.2.1), (12, .int .i64 x.2.2), (13, .int .i64 (i : Nat)), (14, .int .i64 (x.1 : Nat)), (50, (.int .i64 ((d.length : Nat) - 2 : Int))), (51, .int .i64 (k2 : Nat))]) (GI := fun x => [.c b46 4 (Bs d.length s)]) (I := fun x => 1 ≤ x.1 ∧ x.1 ≤ d.length ∧ Bst d.length (wt d pi) s i x.1 x.2.1 x.2.2) (μ := fun x => d.length - x.1) (x := (j, bs, to)) ((j + 1, wt d pi i j, (j : Int))) ?_ ?_ ?_ (fun w h => h)
                            · show d.length - (j + 1) < d.length - j; omega
                            · exact ⟨by dsimp only; omega, by dsimp only; omega, hB3.take ⟨by omega, by omega⟩ ⟨by omega, by omega⟩ (by assumption) (notT (by assumption)) (by omega) (by omega)⟩
                            · refine ⟨?_, ?_, ?_, ?_, ?_, ?_, ?_, ?_, ?_, ?_, ?_, trivial⟩ <;> first | rfl | exact int_eq (by omega) | exact int_eq (by dsimp only; omega)
                          · skip
                            refine J_skip ?_
                            refine E_blk ?_
                            refine E_then ?_
                            refine J_region ?_
                            refine V_mov (.n _) rfl rfl ?_   -- 24.0
                            refine V_add (.n _) rfl rfl (wrap_ok (by omega)) rfl ?_   -- 24.1
                            refine V_asg (.n _) rfl rfl ?_   -- 24.2
                            refine V_sub [(0, _), (1, _), (6, _), (7, _), (10, _), (11, _), (12, _), (13, _), (14, _), (50, _), (51, _), (60, _), (94, _)] ⟨rfl, rfl, rfl, rfl, rfl, rfl, rfl, rfl, rfl, rfl, rfl, rfl, rfl, trivial⟩ ?_
                            refine V_nil (.inl rfl) ?_
                            -- again L3 1
                            refine E_again (X := Nat × Int × Int) (KI := fun x => [(0, (.slice A d.length c)), (1, (.slice AP pi.length cP)), (6, (.int .i64 ((d.length : Nat) : Int))), (7, .int .i64 (ps pi d.length + acc)), (10, (.slice (some ⟨b46, 0, none⟩) d.length d.length)), (11, .int .i64 x.2.1), (12, .int .i64 x.2.2), (13, .int .i64 (i : Nat)), (14, .int .i64 (x.1 : Nat)), (50, (.int .i64 ((d.length : Nat) - 2 : Int))), (51, .int .i64 (k2 : Nat))]) (GI := fun x => [.c b46 4 (Bs d.length s)]) (I := fun x => 1 ≤ x.1 ∧ x.1 ≤ d.length ∧ Bst d.length (wt d pi) s i x.1 x.2.1 x.2.2) (μ := fun x => d.length - x.1) (x := (j, bs, to)) ((j + 1, bs, to)) ?_ ?_ ?_ (fun w h => h)
                            · show d.length - (j + 1) < d.length - j; omega
                            · exact ⟨by dsimp only; omega, by dsimp only; omega, hB3.skip (fun _ _ => by omega)⟩
                            · refine ⟨?_, ?_, ?_, ?_, ?_, ?_, ?_, ?_, ?_, ?_, ?_, trivial⟩ <;> first | rfl | exact int_eq (by omega) | exact int_eq (by dsimp only; omega)
                        · skip
                          refine V_pass (.s _ _ _) (11, true) rfl rfl ?_   -- 25.12
                          refine V_pass (.s _ _ _) (11, true) rfl rfl ?_   -- 25.13
                          refine V_pass (.s _ _ _) (11, true) rfl rfl ?_   -- 25.14
                          refine V_pass (.s _ _ _) (11, true) rfl rfl ?_   -- 25.15
                          refine V_pass (.s _ _ _) (11, true) rfl rfl ?_   -- 25.16
                          refine V_pass (.s _ _ _) (11, true) rfl rfl ?_   -- 25.17
                          refine V_pass (.s _ _ _) (11, true) rfl rfl ?_   -- 25.18
                          refine V_pass (.s _ _ _) (11, true) rfl rfl ?_   -- 25.19
                          refine V_pass (.s _ _ _) (11, true) rfl rfl ?_   -- 25.20
                          refine V_pass (.s _ _ _) (11, true) rfl rfl ?_   -- 25.21
                          refine V_pass (.s _ _ _) (11, true) rfl rfl ?_   -- 25.22
                          refine V_pass (.s _ _ _) (11, true) rfl rfl ?_   -- 25.23
                          refine V_pass (.s _ _ _) (11, true) rfl rfl ?_   -- 25.24
                          refine V_pass (.s _ _ _) (11, true) rfl rfl ?_   -- 25.25
                          refine V_pass (.s _ _ _) (11, true) rfl rfl ?_   -- 25.26
                          refine V_pass (.s _ _ _) (11, true) rfl rfl ?_   -- 25.27
                          refine V_pass (.s _ _ _) (11, true) rfl rfl ?_   -- 25.28
                          refine V_pass (.s _ _ _) (11, true) rfl rfl ?_   -- 25.29
                          refine V_pass (.s _ _ _) (11, true) rfl rfl ?_   -- 25.30
                          refine V_pickF (.s _ _ _) rfl rfl rfl ?_   -- 25.31
                          refine V_sub [(0, _), (1, _), (6, _), (7, _), (10, _), (11, _), (12, _), (13, _), (14, _), (50, _), (51, _), (60, _), (94, _)] ⟨rfl, rfl, rfl, rfl, rfl, rfl, rfl, rfl, rfl, rfl, rfl, rfl, rfl, trivial⟩ ?_
                          refine V_nil (.inr ⟨_, rfl⟩) ?_
                          refine E_then ?_
                          refine J_condF rfl ?_
                          refine J_skip ?_
                          refine E_blk ?_
                          refine E_then ?_
                          refine J_region ?_
                          refine V_mov (.n _) rfl rfl ?_   -- 24.0
                          refine V_add (.n _) rfl rfl (wrap_ok (by omega)) rfl ?_   -- 24.1
                          refine V_asg (.n _) rfl rfl ?_   -- 24.2
                          refine V_sub [(0, _), (1, _), (6, _), (7, _), (10, _), (11, _), (12, _), (13, _), (14, _), (50, _), (51, _), (60, _), (94, _)] ⟨rfl, rfl, rfl, rfl, rfl, rfl, rfl, rfl, rfl, rfl, rfl, rfl, rfl, trivial⟩ ?_
                          refine V_nil (.inl rfl) ?_
                          -- again L3 2
                          refine E_again (X := Nat × Int × Int) (KI := fun x => [(0, (.slice A d.length c)), (1, (.slice AP pi.length cP)), (6, (.int .i64 ((d.length : Nat) : Int))), (7, .int .i64 (ps pi d.length + acc)), (10, (.slice (some ⟨b46, 0, none⟩) d.length d.length)), (11, .int .i64 x.2.1), (12, .int .i64 x.2.2), (13, .int .i64 (i : Nat)), (14, .int .i64 (x.1 : Nat)), (50, (.int .i64 ((d.length : Nat) - 2 : Int))), (51, .int .i64 (k2 : Nat))]) (GI := fun x => [.c b46 4 (Bs d.length s)]) (I := fun x => 1 ≤ x.1 ∧ x.1 ≤ d.length ∧ Bst d.length (wt d pi) s i x.1 x.2.1 x.2.2) (μ := fun x => d.length - x.1) (x := (j, bs, to)) ((j + 1, bs, to)) ?_ ?_ ?_ (fun w h => h)
                          · show d.length - (j + 1) < d.length - j; omega
                          · exact ⟨by dsimp only; omega, by dsimp only; omega, hB3.skip (fun q1 q2 => by simp_all)⟩
                          · refine ⟨?_, ?_, ?_, ?_, ?_, ?_, ?_, ?_, ?_, ?_, ?_, trivial⟩ <;> first | rfl | exact int_eq (by omega) | exact int_eq (by dsimp only; omega)
                      · skip
                        refine V_pass (.s _ _ _) (4, true) rfl rfl ?_   -- 25.5
                        refine V_pass (.s _ _ _) (4, true) rfl rfl ?_   -- 25.6
                        refine V_pass (.s _ _ _) (4, true) rfl rfl ?_   -- 25.7
                        refine V_pass (.s _ _ _) (4, true) rfl rfl ?_   -- 25.8
                        refine V_pass (.s _ _ _) (4, true) rfl rfl ?_   -- 25.9
                        refine V_pickF (.s _ _ _) rfl rfl rfl ?_   -- 25.10
                        refine V_mov (.s _ _ _) rfl rfl ?_   -- 25.11
                        refine V_pass (.s _ _ _) (11, true) rfl rfl ?_   -- 25.12
                        refine V_pass (.s _ _ _) (11, true) rfl rfl ?_   -- 25.13
                        refine V_pass (.s _ _ _) (11, true) rfl rfl ?_   -- 25.14
                        refine V_pass (.s _ _ _) (11, true) rfl rfl ?_   -- 25.15
                        refine V_pass (.s _ _ _) (11, true) rfl rfl ?_   -- 25.16
                        refine V_pass (.s _ _ _) (11, true) rfl rfl ?_   -- 25.17
                        refine V_pass (.s _ _ _) (11, true) rfl rfl ?_   -- 25.18
                        refine V_pass (.s _ _ _) (11, true) rfl rfl ?_   -- 25.19
                        refine V_pass (.s _ _ _) (11, true) rfl rfl ?_   -- 25.20
                        refine V_pass (.s _ _ _) (11, true) rfl rfl ?_   -- 25.21
                        refine V_pass (.s _ _ _) (11, true) rfl rfl ?_   -- 25.22
                        refine V_pass (.s _ _ _) (11, true) rfl rfl ?_   -- 25.23
                        refine V_pass (.s _ _ _) (11, true) rfl rfl ?_   -- 25.24
                        refine V_pass (.s _ _ _) (11, true) rfl rfl ?_   -- 25.25
                        refine V_pass (.s _ _ _) (11, true) rfl rfl ?_   -- 25.26
                        refine V_pass (.s _ _ _) (11, true) rfl rfl ?_   -- 25.27
                        refine V_pass (.s _ _ _) (11, true) rfl rfl ?_   -- 25.28
                        refine V_pass (.s _ _ _) (11, true) rfl rfl ?_   -- 25.29
                        refine V_pass (.s _ _ _) (11, true) rfl rfl ?_   -- 25.30
                        refine V_pickF (.s _ _ _) rfl rfl rfl ?_   -- 25.31
                        refine V_sub [(0, _), (1, _), (6, _), (7, _), (10, _), (11, _), (12, _), (13, _), (14, _), (50, _), (51, _), (60, _), (94, _)] ⟨rfl, rfl, rfl, rfl, rfl, rfl, rfl, rfl, rfl, rfl, rfl, rfl, rfl, trivial⟩ ?_
                        refine V_nil (.inr ⟨_, rfl⟩) ?_
                        refine E_then ?_
                        refine J_condF rfl ?_
                        refine J_skip ?_
                        refine E_blk ?_
                        refine E_then ?_
                        refine J_region ?_
                        refine V_mov (.n _) rfl rfl ?_   -- 24.0
                        refine V_add (.n _) rfl rfl (wrap_ok (by omega)) rfl ?_   -- 24.1
                        refine V_asg (.n _) rfl rfl ?_   -- 24.2
                        refine V_sub [(0, _), (1, _), (6, _), (7, _), (10, _), (11, _), (12, _), (13, _), (14, _), (50, _), (51, _), (60, _), (94, _)] ⟨rfl, rfl, rfl, rfl, rfl, rfl, rfl, rfl, rfl, rfl, rfl, rfl, rfl, trivial⟩ ?_
                        refine V_nil (.inl rfl) ?_
                        -- again L3 3
                        refine E_again (X := Nat × Int × Int) (KI := fun x => [(0, (.slice A d.length c)), (1, (.slice AP pi.length cP)), (6, (.int .i64 ((d.length : Nat) : Int))), (7, .int .i64 (ps pi d.length + acc)), (10, (.slice (some ⟨b46, 0, none⟩) d.length d.length)), (11, .int .i64 x.2.1), (12, .int .i64 x.2.2), (13, .int .i64 (i : Nat)), (14, .int .i64 (x.1 : Nat)), (50, (.int .i64 ((d.length : Nat) - 2 : Int))), (51, .int .i64 (k2 : Nat))]) (GI := fun x => [.c b46 4 (Bs d.length s)]) (I := fun x => 1 ≤ x.1 ∧ x.1 ≤ d.length ∧ Bst d.length (wt d pi) s i x.1 x.2.1 x.2.2) (μ := fun x => d.length - x.1) (x := (j, bs, to)) ((j + 1, bs, to)) ?_ ?_ ?_ (fun w h => h)
                        · show d.length - (j + 1) < d.length - j; omega
                        · exact ⟨by dsimp only; omega, by dsimp only; omega, hB3.skip (fun q1 q2 => by simp_all)⟩
                        · refine ⟨?_, ?_, ?_, ?_, ?_, ?_, ?_, ?_, ?_, ?_, ?_, trivial⟩ <;> first | rfl | exact int_eq (by omega) | exact int_eq (by dsimp only; omega)
                    · skip
                      refine J_exit ?_
                      refine E_then_exit ?_
                      refine E_lp_exit ?_
                      refine E_blk_hit ?_
                      refine E_blk ?_
                      refine E_then ?_
                      refine J_region ?_
                      refine V_mov (.n _) rfl rfl ?_   -- 21.0
                      refine V_add (.n _) rfl rfl (wrap_ok (by omega)) rfl ?_   -- 21.1
                      refine V_asg (.n _) rfl rfl ?_   -- 21.2
                      refine V_sub [(0, _), (1, _), (6, _), (7, _), (10, _), (11, _), (12, _), (13, _), (14, _), (50, _), (51, _), (60, _)] ⟨rfl, rfl, rfl, rfl, rfl, rfl, rfl, rfl, rfl, rfl, rfl, rfl, trivial⟩ ?_
                      refine V_nil (.inl rfl) ?_
                      -- again L2 0
                      refine E_again (X := Nat × Int × Int) (KI := fun x => [(0, (.slice A d.length c)), (1, (.slice AP pi.length cP)), (6, (.int .i64 ((d.length : Nat) : Int))), (7, .int .i64 (ps pi d.length + acc)), (10, (.slice (some ⟨b46, 0, none⟩) d.length d.length)), (11, .int .i64 x.2.1), (12, .int .i64 x.2.2), (13, .int .i64 (x.1 : Nat)), (50, (.int .i64 ((d.length : Nat) - 2 : Int))), (51, .int .i64 (k2 : Nat))]) (GI := fun x => [.c b46 4 (Bs d.length s)]) (I := fun x => 1 ≤ x.1 ∧ x.1 ≤ d.length ∧ Bst d.length (wt d pi) s x.1 1 x.2.1 x.2.2) (μ := fun x => d.length - x.1) (x := (i, bs2, to2)) ((i + 1, bs, to)) ?_ ?_ ?_ (fun w h => h)
                      · show d.length - (i + 1) < d.length - i; omega
                      · exact ⟨by dsimp only; omega, by dsimp only; omega, hB3.row (by omega)⟩
                      · refine ⟨?_, ?_, ?_, ?_, ?_, ?_, ?_, ?_, ?_, ?_, trivial⟩ <;> first | rfl | exact int_eq (by omega) | exact int_eq (by dsimp only; omega)
                · obtain ⟨u, v, hu, hv, hsu, hsv, rfl, rfl, hmin⟩ := hB.done (by omega) hn3 hG.lt hG.b0 hG.b1 (hG.ne (by omega)) (fun a b ha hb => (wt_bd hd hpB ha hb).2)
                  have hwb := wt_bd hd hpB hu.2 hv.2
                  have hG2 := hG.next hu hv hsu hsv hmin hwb
                  have hv2 := hv.2
                  refine J_exit ?_
                  refine E_then_exit ?_
                  refine E_lp_exit ?_
                  refine E_blk_hit ?_
                  refine E_then ?_
                  refine J_seq ?_
                  refine J_region ?_
                  refine V_mov (.n _) rfl rfl ?_   -- 27.0
                  refine V_mov (.n _) rfl rfl ?_   -- 27.1
                  first | refine V_ix (.n _) Tryd.underlying117 Tryd.sizeOf4 rfl rfl (by omega) (by omega) rfl ?_ | refine V_ixz (.n _) Tryd.underlying117 Tryd.sizeOf4 rfl rfl (hm.rd.pl (by rw [hm.len]; omega)) (by omega) (by omega) rfl ?_ | refine V_ixz (.n _) Tryd.underlying117 Tryd.sizeOf4 rfl rfl (hrri.pl (by simp)) (by omega) (by omega) rfl ?_ | refine V_ixz (.n _) Tryd.underlying117 Tryd.sizeOf4 rfl rfl (hr.pl (by simp)) (by omega) (by omega) rfl ?_ | refine V_ixz (.n _) Tryd.underlying117 Tryd.sizeOf4 rfl rfl (hrr0.pl (by simp)) (by omega) (by omega) rfl ?_   -- 27.2
                  refine V_st (cs' := Bs d.length (s ||| 2 ^ v)) (.n _) Tryd.sizeOf4 rfl rfl rfl .z (by rw [toN]; exact Bs_set hv.1 hv.2) (by simp; exact hv.2) ?_   -- 27.3
                  refine V_sub [(0, _), (1, _), (6, _), (7, _), (10, _), (11, _), (12, _), (13, _), (50, _), (51, _), (55, _)] ⟨rfl, rfl, rfl, rfl, rfl, rfl, rfl, rfl, rfl, rfl, rfl, trivial⟩ ?_
                  refine V_nil (.inl rfl) ?_
                  refine E_then ?_
                  refine J_region ?_
                  refine V_mov (.n _) rfl rfl ?_   -- 28.0
                  refine V_mov (.n _) rfl rfl ?_   -- 28.1
                  refine V_add (.n _) rfl rfl (wrap_ok (by omega)) rfl ?_   -- 28.2
                  refine V_asg (.n _) rfl rfl ?_   -- 28.3
                  refine V_sub [(0, _), (1, _), (6, _), (7, _), (10, _), (11, _), (12, _), (13, _), (50, _), (51, _), (55, _)] ⟨rfl, rfl, rfl, rfl, rfl, rfl, rfl, rfl, rfl, rfl, rfl, trivial⟩ ?_
                  refine V_nil (.inl rfl) ?_
                  refine E_blk ?_
                  refine E_then ?_
                  refine J_region ?_
                  refine V_add (.n _) rfl rfl (wrap_ok (by omega)) rfl ?_   -- 29.0
                  refine V_mov (.n _) rfl rfl ?_   -- 29.1
                  refine V_sub [(0, _), (1, _), (6, _), (7, _), (10, _), (11, _), (12, _), (13, _), (50, _), (51, _), (55, _)] ⟨rfl, rfl, rfl, rfl, rfl, rfl, rfl, rfl, rfl, rfl, rfl, trivial⟩ ?_
                  refine V_nil (.inl rfl) ?_
                  -- again L1 0
                  refine E_again (X := Nat × Nat × Int) (KI := fun x => [(0, (.slice A d.length c)), (1, (.slice AP pi.length cP)), (6, (.int .i64 ((d.length : Nat) : Int))), (7, .int .i64 (ps pi d.length + x.2.2)), (10, (.slice (some ⟨b46, 0, none⟩) d.length d.length)), (50, (.int .i64 ((d.length : Nat) - 2 : Int))), (51, .int .i64 (x.1 : Nat))]) (GI := fun x => [.c b46 4 (Bs d.length x.2.1)]) (I := fun x => x.1 + 2 ≤ d.length ∧ Gr d.length (wt d pi) x.2.1 x.1 x.2.2) (μ := fun x => d.length - x.1) (x := (k2, s, acc)) ((k2 + 1, s ||| 2 ^ v, acc + wt d pi u v)) ?_ ?_ ?_ (fun w h => h)
                  · show d.length - (k2 + 1) < d.length - k2; omega
                  · exact ⟨by dsimp only; omega, hG2⟩
                  · refine ⟨?_, ?_, ?_, ?_, ?_, ?_, ?_, trivial⟩ <;> first | rfl | exact int_eq (by dsimp only; omega)
            · skip
              refine J_exit ?_
              refine E_then_exit ?_
              refine E_lp_exit ?_
              refine E_blk_hit ?_
              refine E_then ?_
              refine J_seq ?_
              refine J_region ?_
              refine V_asg (.n _) rfl rfl ?_   -- 30.0
              refine V_asg (.n _) rfl rfl ?_   -- 30.1
              refine V_sub [(0, _), (1, _), (6, _), (7, _), (10, _), (15, _), (16, _), (50, _), (51, _), (52, _)] ⟨rfl, rfl, rfl, rfl, rfl, rfl, rfl, rfl, rfl, rfl, trivial⟩ ?_
              refine V_nil (.inl rfl) ?_
              refine E_then ?_
              refine J_seq ?_
              refine J_seq ?_
              refine J_region ?_
              refine V_asg (.n _) rfl rfl ?_   -- 31.0
              refine V_sub [(0, _), (1, _), (6, _), (7, _), (10, _), (15, _), (16, _), (17, _), (50, _), (51, _), (52, _)] ⟨rfl, rfl, rfl, rfl, rfl, rfl, rfl, rfl, rfl, rfl, rfl, trivial⟩ ?_
              refine V_nil (.inl rfl) ?_
              refine E_then ?_
              refine J_block ?_
              -- loop L4
              have hT := hG.full hd (by omega)
              refine J_loop (X := Nat) (fun k2 => [(0, (.slice A d.length c)), (1, (.slice AP pi.length cP)), (6, (.int .i64 ((d.length : Nat) : Int))), (7, .int .i64 (ps pi d.length + acc)), (10, (.slice (some ⟨b46, 0, none⟩) d.length d.length)), (15, .int .i64 (twoK d pi k2).1), (16, .int .i64 (twoK d pi k2).2), (17, .int .i64 ((k2 + 1 : Nat) : Int))]) (fun k2 => [.c b46 4 (Bs d.length s)]) (fun k2 => k2 + 1 ≤ d.length) (fun k2 => d.length - k2) (0) (by refine ⟨?_, ?_, ?_, ?_, ?_, ?_, ?_, ?_, trivial⟩ <;> first | rfl | exact int_eq (by omega)) (fun w h => h) ?_ ?_
              · omega
              · rintro k2 hk4
                have htb := twoK_bd (d := d) (pi := pi) (fun j hj => (wt_bd hd hpB (show 0 < d.length by omega) hj).1) k2 hk4
                refine J_seq ?_
                refine J_seq ?_
                refine J_region ?_
                refine V_mov (.n _) rfl rfl ?_   -- 32.0
                refine V_mov (.n _) rfl rfl ?_   -- 32.1
                refine V_lss (.n _) rfl rfl rfl ?_   -- 32.2
                refine V_sub [(0, _), (1, _), (6, _), (7, _), (10, _), (15, _), (16, _), (17, _), (122, _)] ⟨rfl, rfl, rfl, rfl, rfl, rfl, rfl, rfl, rfl, trivial⟩ ?_
                refine V_nil (.inl rfl) ?_
                refine E_then ?_
                refine J_cond rfl (fun h12 => ?_) (fun h12 => ?_)   -- C8
                · skip
                  refine J_skip ?_
                  refine E_then ?_
                  refine J_seq ?_
                  refine J_block ?_
                  refine J_seq ?_
                  refine J_draw (Gs := _) (cl := [.p, .p, .r, .p, .p, .r, .p, .p, .r, .p, .p, .p, .p, .r, .p, .p]) (by kernel_rfl) (fun _ _ h => h) ?_
                  refine V_mov (.s _ _ _) rfl rfl ?_   -- 34.0
                  first | refine V_ix (.s _ _ _) Tryd.underlying45 Tryd.sizeOf34 rfl rfl (by omega) (by omega) rfl ?_ | refine V_ixz (.s _ _ _) Tryd.underlying45 Tryd.sizeOf34 rfl rfl (hm.rd.pl (by rw [hm.len]; omega)) (by omega) (by omega) rfl ?_ | refine V_ixz (.s _ _ _) Tryd.underlying45 Tryd.sizeOf34 rfl rfl (hrri.pl (by simp)) (by omega) (by omega) rfl ?_ | refine V_ixz (.s _ _ _) Tryd.underlying45 Tryd.sizeOf34 rfl rfl (hr.pl (by simp)) (by omega) (by omega) rfl ?_ | refine V_ixz (.s _ _ _) Tryd.underlying45 Tryd.sizeOf34 rfl rfl (hrr0.pl (by simp)) (by omega) (by omega) rfl ?_   -- 34.1
                  obtain ⟨A0, c0, hrow0, hrr0⟩ := hm.get (i := 0) (by omega)
                  have hrl0 := (hd.row (show 0 < d.length by omega)).1
                  refine V_ldz (.s _ _ _) Tryd.isAgg34 rfl hm.rd hrow0 rfl ?_   -- 34.2
                  refine V_mov (.s _ _ _) rfl rfl ?_   -- 34.3
                  first | refine V_ix (.s _ _ _) Tryd.underlying34 Tryd.sizeOf3 rfl rfl (by omega) (by omega) rfl ?_ | refine V_ixz (.s _ _ _) Tryd.underlying34 Tryd.sizeOf3 rfl rfl (hm.rd.pl (by rw [hm.len]; omega)) (by omega) (by omega) rfl ?_ | refine V_ixz (.s _ _ _) Tryd.underlying34 Tryd.sizeOf3 rfl rfl (hrri.pl (by simp)) (by omega) (by omega) rfl ?_ | refine V_ixz (.s _ _ _) Tryd.underlying34 Tryd.sizeOf3 rfl rfl (hr.pl (by simp)) (by omega) (by omega) rfl ?_ | refine V_ixz (.s _ _ _) Tryd.underlying34 Tryd.sizeOf3 rfl rfl (hrr0.pl (by simp)) (by omega) (by omega) rfl ?_   -- 34.4
                  have hcj := hd.costs 0 (k2 + 1) (by omega) (by omega)
                  unfold cst at hcj
                  have hpi := hpB 0
                  have hpj := hpB (k2 + 1)
                  have hwe : wt d pi 0 (k2 + 1) = (d.getD 0 []).getD (k2 + 1) 0 + pi.getD 0 0 + pi.getD (k2 + 1) 0 := rfl
                  refine V_ldz (.s _ _ _) Tryd.isAgg3 rfl hrr0 (I_getN (i := k2 + 1) (by omega)) rfl ?_   -- 34.5
                  refine V_mov (.s _ _ _) rfl rfl ?_   -- 34.6
                  first | refine V_ix (.s _ _ _) Tryd.underlying34 Tryd.sizeOf3 rfl rfl (by omega) (by omega) rfl ?_ | refine V_ixz (.s _ _ _) Tryd.underlying34 Tryd.sizeOf3 rfl rfl (hm.rd.pl (by rw [hm.len]; omega)) (by omega) (by omega) rfl ?_ | refine V_ixz (.s _ _ _) Tryd.underlying34 Tryd.sizeOf3 rfl rfl (hrri.pl (by simp)) (by omega) (by omega) rfl ?_ | refine V_ixz (.s _ _ _) Tryd.underlying34 Tryd.sizeOf3 rfl rfl (hr.pl (by simp)) (by omega) (by omega) rfl ?_ | refine V_ixz (.s _ _ _) Tryd.underlying34 Tryd.sizeOf3 rfl rfl (hrr0.pl (by simp)) (by omega) (by omega) rfl ?_   -- 34.7
                  refine V_ldz (.s _ _ _) Tryd.isAgg3 rfl hr (I_getN (i := 0) (by omega)) rfl ?_   -- 34.8
                  refine V_add (.s _ _ _) rfl rfl (wrap_ok (by omega)) rfl ?_   -- 34.9
                  refine V_mov (.s _ _ _) rfl rfl ?_   -- 34.10
                  refine V_mov (.s _ _ _) rfl rfl ?_   -- 34.11
                  first | refine V_ix (.s _ _ _) Tryd.underlying34 Tryd.sizeOf3 rfl rfl (by omega) (by omega) rfl ?_ | refine V_ixz (.s _ _ _) Tryd.underlying34 Tryd.sizeOf3 rfl rfl (hm.rd.pl (by rw [hm.len]; omega)) (by omega) (by omega) rfl ?_ | refine V_ixz (.s _ _ _) Tryd.underlying34 Tryd.sizeOf3 rfl rfl (hrri.pl (by simp)) (by omega) (by omega) rfl ?_ | refine V_ixz (.s _ _ _) Tryd.underlying34 Tryd.sizeOf3 rfl rfl (hr.pl (by simp)) (by omega) (by omega) rfl ?_ | refine V_ixz (.s _ _ _) Tryd.underlying34 Tryd.sizeOf3 rfl rfl (hrr0.pl (by simp)) (by omega) (by omega) rfl ?_   -- 34.12
                  refine V_ldz (.s _ _ _) Tryd.isAgg3 rfl hr (I_getN (i := (k2 + 1)) (by omega)) rfl ?_   -- 34.13
                  refine V_add (.s _ _ _) rfl rfl (wrap_ok (by omega)) rfl ?_   -- 34.14
                  refine V_asg (.s _ _ _) rfl rfl ?_   -- 34.15
                  refine V_sub [(0, _), (1, _), (6, _), (7, _), (10, _), (15, _), (16, _), (17, _), (18, _), (122, _)] ⟨rfl, rfl, rfl, rfl, rfl, rfl, rfl, rfl, rfl, rfl, trivial⟩ ?_
                  refine V_nil (.inr ⟨_, rfl⟩) ?_
                  refine E_then ?_
                  refine J_block ?_
                  refine J_seq ?_
                  refine J_region ?_
                  refine V_mov (.n _) rfl rfl ?_   -- 35.0
                  refine V_mov (.n _) rfl rfl ?_   -- 35.1
                  refine V_lss (.n _) rfl rfl rfl ?_   -- 35.2
                  refine V_asg (.n _) rfl rfl ?_   -- 35.3
                  refine V_sub [(0, _), (1, _), (6, _), (7, _), (10, _), (15, _), (16, _), (17, _), (18, _), (122, _), (140, _)] ⟨rfl, rfl, rfl, rfl, rfl, rfl, rfl, rfl, rfl, rfl, rfl, trivial⟩ ?_
                  refine V_nil (.inl rfl) ?_
                  refine E_then ?_
                  refine J_cond rfl (fun h13 => ?_) (fun h13 => ?_)   -- C9
                  · skip
                    refine J_region ?_
                    refine V_mov (.n _) rfl rfl ?_   -- 36.0
                    refine V_mov (.n _) rfl rfl ?_   -- 36.1
                    refine V_asg (.n _) rfl rfl ?_   -- 36.2
                    refine V_asg (.n _) rfl rfl ?_   -- 36.3
                    refine V_sub [(0, _), (1, _), (6, _), (7, _), (10, _), (15, _), (16, _), (17, _), (18, _), (122, _), (140, _)] ⟨rfl, rfl, rfl, rfl, rfl, rfl, rfl, rfl, rfl, rfl, rfl, trivial⟩ ?_
                    refine V_nil (.inl rfl) ?_
                    refine E_blk ?_
                    refine E_blk ?_
                    refine E_then ?_
                    refine J_region ?_
                    refine V_mov (.n _) rfl rfl ?_   -- 33.0
                    refine V_add (.n _) rfl rfl (wrap_ok (by omega)) rfl ?_   -- 33.1
                    refine V_asg (.n _) rfl rfl ?_   -- 33.2
                    refine V_sub [(0, _), (1, _), (6, _), (7, _), (10, _), (15, _), (16, _), (17, _), (18, _), (122, _), (140, _)] ⟨rfl, rfl, rfl, rfl, rfl, rfl, rfl, rfl, rfl, rfl, rfl, trivial⟩ ?_
                    refine V_nil (.inl rfl) ?_
                    -- again L4 0
                    have hnx := (twoK_next d pi k2).trans (two_a (by omega))
                    refine E_again (k2 + 1) ?_ ?_ ?_ (fun w h => h)
                    · omega
                    · omega
                    · refine ⟨?_, ?_, ?_, ?_, ?_, ?_, ?_, ?_, trivial⟩ <;> first | rfl | exact int_eq (by omega) | (rw [hnx]; rfl) | (dsimp only; rw [hnx]; rfl)
                  · skip
                    refine J_seq ?_
                    refine J_region ?_
                    refine V_mov (.n _) rfl rfl ?_   -- 37.0
                    refine V_mov (.n _) rfl rfl ?_   -- 37.1
                    refine V_lss (.n _) rfl rfl rfl ?_   -- 37.2
                    refine V_asg (.n _) rfl rfl ?_   -- 37.3
                    refine V_sub [(0, _), (1, _), (6, _), (7, _), (10, _), (15, _), (16, _), (17, _), (18, _), (122, _), (140, _), (146, _)] ⟨rfl, rfl, rfl, rfl, rfl, rfl, rfl, rfl, rfl, rfl, rfl, rfl, trivial⟩ ?_
                    refine V_nil (.inl rfl) ?_
                    refine E_then ?_
                    refine J_cond rfl (fun h14 => ?_) (fun h14 => ?_)   -- C10
                    · skip
                      refine J_region ?_
                      refine V_mov (.n _) rfl rfl ?_   -- 38.0
                      refine V_asg (.n _) rfl rfl ?_   -- 38.1
                      refine V_sub [(0, _), (1, _), (6, _), (7, _), (10, _), (15, _), (16, _), (17, _), (18, _), (122, _), (140, _), (146, _)] ⟨rfl, rfl, rfl, rfl, rfl, rfl, rfl, rfl, rfl, rfl, rfl, rfl, trivial⟩ ?_
                      refine V_nil (.inl rfl) ?_
                      refine E_blk ?_
                      refine E_blk ?_
                      refine E_then ?_
                      refine J_region ?_
                      refine V_mov (.n _) rfl rfl ?_   -- 33.0
                      refine V_add (.n _) rfl rfl (wrap_ok (by omega)) rfl ?_   -- 33.1
                      refine V_asg (.n _) rfl rfl ?_   -- 33.2
                      refine V_sub [(0, _), (1, _), (6, _), (7, _), (10, _), (15, _), (16, _), (17, _), (18, _), (122, _), (140, _), (146, _)] ⟨rfl, rfl, rfl, rfl, rfl, rfl, rfl, rfl, rfl, rfl, rfl, rfl, trivial⟩ ?_
                      refine V_nil (.inl rfl) ?_
                      -- again L4 1
                      have hnx := (twoK_next d pi k2).trans (two_b (by omega) (by omega))
                      refine E_again (k2 + 1) ?_ ?_ ?_ (fun w h => h)
                      · omega
                      · omega
                      · refine ⟨?_, ?_, ?_, ?_, ?_, ?_, ?_, ?_, trivial⟩ <;> first | rfl | exact int_eq (by omega) | (rw [hnx]; rfl) | (dsimp only; rw [hnx]; rfl)
                    · skip
                      refine J_skip ?_
                      refine E_blk ?_
                      refine E_blk ?_
                      refine E_then ?_
                      refine J_region ?_
                      refine V_mov (.n _) rfl rfl ?_   -- 33.0
                      refine V_add (.n _) rfl rfl (wrap_ok (by omega)) rfl ?_   -- 33.1
                      refine V_asg (.n _) rfl rfl ?_   -- 33.2
                      refine V_sub [(0, _), (1, _), (6, _), (7, _), (10, _), (15, _), (16, _), (17, _), (18, _), (122, _), (140, _), (146, _)] ⟨rfl, rfl, rfl, rfl, rfl, rfl, rfl, rfl, rfl, rfl, rfl, rfl, trivial⟩ ?_
                      refine V_nil (.inl rfl) ?_
                      -- again L4 2
                      have hnx := (twoK_next d pi k2).trans (two_c (by omega) (by omega))
                      refine E_again (k2 + 1) ?_ ?_ ?_ (fun w h => h)
                      · omega
                      · omega
                      · refine ⟨?_, ?_, ?_, ?_, ?_, ?_, ?_, ?_, trivial⟩ <;> first | rfl | exact int_eq (by omega) | (rw [hnx]; rfl) | (dsimp only; rw [hnx]; rfl)
                · skip
                  refine J_exit ?_
                  refine E_then_exit ?_
                  refine E_lp_exit ?_
                  refine E_blk_hit ?_
                  refine E_then ?_
                  refine J_seq ?_
                  refine J_region ?_
                  refine V_mov (.n _) rfl rfl ?_   -- 39.0
                  refine V_mov (.n _) rfl rfl ?_   -- 39.1
                  refine V_add (.n _) rfl rfl (wrap_ok (by omega)) rfl ?_   -- 39.2
                  refine V_mov (.n _) rfl rfl ?_   -- 39.3
                  refine V_add (.n _) rfl rfl (wrap_ok (by omega)) rfl ?_   -- 39.4
                  refine V_asg (.n _) rfl rfl ?_   -- 39.5
                  refine V_asg (.n _) rfl rfl ?_   -- 39.6
                  refine V_sub [(0, _), (1, _), (4, _), (5, _), (6, _), (7, _), (10, _), (15, _), (16, _), (17, _), (122, _)] ⟨rfl, rfl, rfl, rfl, rfl, rfl, rfl, rfl, rfl, rfl, rfl, trivial⟩ ?_
                  refine V_nil (.inl rfl) ?_
                  refine E_then ?_
                  refine J_ret ?_
                  -- return R4
                  refine E_ret2 Tryd.results47 rfl rfl (fun w hw => ?_)
                  obtain rfl : k2 = d.length - 1 := by omega
                  refine ⟨?_, hw.sub (fun x hx => by simp at hx) (by simp [keys])⟩
                  rw [treeR_d hd (by omega) hpB0, treeV, hT]
                  exact tup_eq (by omega)

end Go.Proofs.YtgeahmmepfmcoaaDoor
