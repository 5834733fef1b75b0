/- Orders of baths: what can follow, what is still to be paid, the first cheapest order. No Go in sight. -/
import Derived.Test.YtgeahmmepfmcoaaDoorBits
namespace Go.Proofs.YtgeahmmepfmcoaaDoor
open Go Go.RowKit L
set_option linter.unusedVariables false
set_option linter.unusedSimpArgs false

abbrev Pairs := List (Nat × Nat)
/-- bath j can follow the set s -/
def fol (be : Pairs) (s j : Nat) : Bool := !s.testBit j && be.all fun b => !(b.2 == j) || s.testBit b.1
/-- the baths that must come before bath j -/
def needN (be : Pairs) (j : Nat) : Nat := be.foldl (fun s b => if b.2 = j then s ||| 2 ^ b.1 else s) 0
theorem needN_fold (j k : Nat) : ∀ (be : Pairs) (s : Nat), (be.foldl (fun s b => if b.2 = j then s ||| 2 ^ b.1 else s) s).testBit k = (s.testBit k || be.any fun b => b.2 == j && b.1 == k)
  | [], s => by simp
  | b :: be, s => by
    rw [List.foldl_cons, needN_fold j k be, List.any_cons]
    by_cases h : b.2 = j
    · rw [if_pos h, or_bit]
      have h3 : (b.2 == j) = true := by simpa using h
      have h4 : decide (b.1 = k) = (b.1 == k) := rfl
      rw [h3, h4, Bool.true_and, Bool.or_assoc]
    · rw [if_neg h]
      have : (b.2 == j) = false := by simpa using h
      simp [this]
theorem needN_bit (be : Pairs) (j k : Nat) : (needN be j).testBit k = be.any fun b => b.2 == j && b.1 == k := by
  rw [needN, needN_fold]; simp
theorem needN_lt {be : Pairs} {n : Nat} (h : ∀ b ∈ be, b.1 < n) (j : Nat) : needN be j < 2 ^ n := by
  have key : ∀ (be : Pairs) (s : Nat), (∀ b ∈ be, b.1 < n) → s < 2 ^ n → be.foldl (fun s b => if b.2 = j then s ||| 2 ^ b.1 else s) s < 2 ^ n := by
    intro be
    induction be with
    | nil => intro s _ hs; exact hs
    | cons b be ih =>
      intro s hb hs
      rw [List.foldl_cons]
      refine ih _ (fun x hx => hb x (by simp [hx])) ?_
      split
      · exact or_lt hs (hb b (by simp))
      · exact hs
  exact key be 0 h (Nat.pow_pos (by decide))
theorem fol_need {be : Pairs} {j : Nat} (h : needN be j < 2 ^ 64) (s : Nat) : fol be s j = (!s.testBit j && decide (less (needN be j) s = 0)) := by
  unfold fol
  congr 1
  rw [Bool.eq_iff_iff, decide_eq_true_eq, less_zero h, List.all_eq_true]
  constructor
  · intro hh k hk
    rw [needN_bit, List.any_eq_true] at hk
    obtain ⟨b, hb, hk⟩ := hk
    simp at hk
    have := hh b hb
    simp [hk.1] at this
    rw [← hk.2]; exact this
  · intro hh b hb
    by_cases e : b.2 = j
    · have := hh b.1 (by rw [needN_bit, List.any_eq_true]; exact ⟨b, hb, by simp [e]⟩)
      simp [this]
    · simp [e]
theorem fol_not {be : Pairs} {s j : Nat} (h : fol be s j = true) : s.testBit j = false := by
  unfold fol at h; simp at h; exact h.1
theorem fol_sub {be : Pairs} {s s' j : Nat} (h : fol be s j = true) (hs : ∀ k, s.testBit k = true → s'.testBit k = true) (hj : s'.testBit j = false) : fol be s' j = true := by
  unfold fol at h ⊢
  simp only [Bool.and_eq_true, List.all_eq_true, Bool.not_eq_true'] at h ⊢
  refine ⟨hj, fun b hb => ?_⟩
  have := h.2 b hb
  by_cases e : b.2 = j
  · simp [e] at this ⊢; exact hs _ this
  · simp [e]
theorem fol_more {be be' : Pairs} (hb : ∀ b ∈ be, b ∈ be') {s j : Nat} (h : fol be' s j = true) : fol be s j = true := by
  unfold fol at h ⊢
  simp only [Bool.and_eq_true, List.all_eq_true] at h ⊢
  exact ⟨h.1, fun b hb' => h.2 b (hb b hb')⟩

/-! is there an order -/
def addAll (be : Pairs) (l : List Nat) (s : Nat) : Nat := l.foldl (fun s j => if fol be s j then s ||| 2 ^ j else s) s
def posSet (be : Pairs) (n : Nat) : Nat → Nat
  | 0 => 0
  | k + 1 => addAll be (List.range n) (posSet be n k)
def possible (be : Pairs) (n : Nat) : Bool := decide (posSet be n n = 2 ^ n - 1)
theorem addAll_in {be : Pairs} {S : Nat} : ∀ (l : List Nat) (s : Nat), (∀ j ∈ l, fol be S j = false) → (∀ k, s.testBit k = true → S.testBit k = true) → ∀ k, (addAll be l s).testBit k = true → S.testBit k = true
  | [], s, _, h => h
  | j :: l, s, hno, h => by
    show ∀ k, (addAll be l (if fol be s j then s ||| 2 ^ j else s)).testBit k = true → _
    refine addAll_in l _ (fun x hx => hno x (by simp [hx])) ?_
    split
    · rename_i hf
      intro k hk
      rw [or_bit, Bool.or_eq_true, decide_eq_true_eq] at hk
      rcases hk with hk | rfl
      · exact h k hk
      · cases hS : S.testBit j with
        | true => rfl
        | false =>
          have := fol_sub hf h hS
          rw [hno j (by simp)] at this
          simp at this
    · exact h
theorem posSet_in {be : Pairs} {n S : Nat} (hno : ∀ j, j < n → fol be S j = false) : ∀ (k i : Nat), (posSet be n k).testBit i = true → S.testBit i = true
  | 0, i, h => by simp [posSet] at h
  | k + 1, i, h => addAll_in (List.range n) _ (fun j hj => hno j (List.mem_range.1 hj)) (posSet_in hno k) i h
/-- where there is an order, some bath can follow any set that is not full -/
theorem goes_on {be : Pairs} {n : Nat} (h : possible be n = true) {S : Nat} (hS : S < 2 ^ n) (hne : S ≠ 2 ^ n - 1) : ∃ j, j < n ∧ fol be S j = true := by
  have hfull : posSet be n n = 2 ^ n - 1 := of_decide_eq_true h
  by_cases hex : ∃ j, j < n ∧ fol be S j = true
  · exact hex
  · exfalso
    have hno : ∀ j, j < n → fol be S j = false := fun j hj => by
      cases hf : fol be S j with
      | false => rfl
      | true => exact (hex ⟨j, hj, hf⟩).elim
    apply hne
    refine Nat.eq_of_testBit_eq fun i => ?_
    rw [full_bit]
    by_cases hi : i < n
    · rw [decide_eq_true hi]
      exact posSet_in hno n i (by rw [hfull, full_bit, decide_eq_true hi])
    · rw [decide_eq_false hi]
      exact Nat.testBit_lt_two_pow (Nat.lt_of_lt_of_le hS (Nat.pow_le_pow_right (by decide) (by omega)))

/-! what is still to be paid -/
abbrev Rows2 := List (List Int)
def cst (ch : Rows2) (i j : Nat) : Int := (ch.getD i []).getD j 0
def far2 : Int := 1099511627776
/-- the least over the baths that can follow -/
def bestJ (be : Pairs) (f : Nat → Int) (s : Nat) (m : Int) (l : List Nat) : Int := l.foldl (fun m j => if fol be s j then min m (f j) else m) m
def valF (n : Nat) (ch : Rows2) (be : Pairs) : Nat → Nat → Nat → Int
  | 0, s, i => -1
  | f + 1, s, i => if s.testBit i then bestJ be (fun j => cst ch i j + valF n ch be f (s ||| 2 ^ j) j) s (if s = 2 ^ n - 1 then 0 else far2) (List.range n) else -1
theorem bestJ_congr {be : Pairs} {f g : Nat → Int} {s : Nat} : ∀ (l : List Nat) (m : Int), (∀ j ∈ l, fol be s j = true → f j = g j) → bestJ be f s m l = bestJ be g s m l
  | [], m, _ => rfl
  | j :: l, m, h => by
    show bestJ be f s (if fol be s j then min m (f j) else m) l = bestJ be g s (if fol be s j then min m (g j) else m) l
    rw [bestJ_congr l _ (fun x hx => h x (by simp [hx]))]
    by_cases hf : fol be s j = true
    · rw [h j (by simp) hf]
    · simp [hf]
theorem bestJ_le {be : Pairs} {f : Nat → Int} {s : Nat} : ∀ (l : List Nat) (m : Int), bestJ be f s m l ≤ m ∧ ∀ j ∈ l, fol be s j = true → bestJ be f s m l ≤ f j
  | [], m => ⟨Int.le_refl _, by simp⟩
  | j :: l, m => by
    obtain ⟨h1, h2⟩ := bestJ_le (be := be) (f := f) (s := s) l (if fol be s j then min m (f j) else m)
    show bestJ be f s (if fol be s j then min m (f j) else m) l ≤ m ∧ _
    refine ⟨?_, fun x hx hf => ?_⟩
    · by_cases hf : fol be s j = true
      · rw [if_pos hf] at h1 ⊢; omega
      · rw [if_neg hf] at h1 ⊢; omega
    · show bestJ be f s (if fol be s j then min m (f j) else m) l ≤ _
      rcases List.mem_cons.1 hx with rfl | hx
      · rw [if_pos hf] at h1 ⊢; omega
      · exact h2 x hx hf
theorem bestJ_ex {be : Pairs} {f : Nat → Int} {s : Nat} : ∀ (l : List Nat) (m : Int), bestJ be f s m l = m ∨ ∃ j ∈ l, fol be s j = true ∧ bestJ be f s m l = f j
  | [], m => .inl rfl
  | j :: l, m => by
    show bestJ be f s (if fol be s j then min m (f j) else m) l = m ∨ ∃ x ∈ j :: l, _ ∧ bestJ be f s (if fol be s j then min m (f j) else m) l = f x
    rcases bestJ_ex (be := be) (f := f) (s := s) l (if fol be s j then min m (f j) else m) with h | ⟨x, hx, hf, h⟩
    · by_cases hf : fol be s j = true
      · rw [if_pos hf] at h ⊢
        by_cases hm : m ≤ f j
        · left; omega
        · right; exact ⟨j, by simp, hf, by omega⟩
      · rw [if_neg hf] at h ⊢; exact .inl h
    · exact .inr ⟨x, by simp [hx], hf, h⟩
theorem bestJ_snoc {be : Pairs} {f : Nat → Int} {s j n : Nat} {m : Int} : bestJ be f s m (List.range (j + 1)) = if fol be s j then min (bestJ be f s m (List.range j)) (f j) else bestJ be f s m (List.range j) := by
  simp only [bestJ, List.range_succ, List.foldl_append, List.foldl_cons, List.foldl_nil]
theorem valF_fuel {n : Nat} {ch : Rows2} {be : Pairs} : ∀ (f g s i : Nat), s < 2 ^ n → 2 ^ n ≤ f + s → 2 ^ n ≤ g + s → valF n ch be f s i = valF n ch be g s i
  | 0, g, s, i, hs, hf, hg => by omega
  | f + 1, 0, s, i, hs, hf, hg => by omega
  | f + 1, g + 1, s, i, hs, hf, hg => by
    rw [valF, valF]
    congr 1
    refine bestJ_congr _ _ fun j hj hfol => ?_
    have := or_gt (fol_not hfol)
    rw [valF_fuel f g (s ||| 2 ^ j) j (or_lt hs (List.mem_range.1 hj)) (by omega) (by omega)]
/-- what is still to be paid from the set s on, whose last bath is i -/
def pay (n : Nat) (ch : Rows2) (be : Pairs) (s i : Nat) : Int := valF n ch be (2 ^ n) s i
theorem pay_eq {n : Nat} {ch : Rows2} {be : Pairs} {s : Nat} (hs : s < 2 ^ n) (i : Nat) : pay n ch be s i = if s.testBit i then bestJ be (fun j => cst ch i j + pay n ch be (s ||| 2 ^ j) j) s (if s = 2 ^ n - 1 then 0 else far2) (List.range n) else -1 := by
  have e : pay n ch be s i = valF n ch be (2 ^ n + 1) s i := valF_fuel _ _ _ _ hs (by omega) (by omega)
  rw [e, valF]; rfl

/-- all costs are from 0 to 1000 -/
def Costs (n : Nat) (ch : Rows2) : Prop := ∀ i j, i < n → j < n → 0 ≤ cst ch i j ∧ cst ch i j ≤ 1000
theorem pay_bd {n : Nat} {ch : Rows2} {be : Pairs} (hc : Costs n ch) : ∀ (k s i : Nat), s + k = 2 ^ n → 0 < k → i < n → -1 ≤ pay n ch be s i ∧ pay n ch be s i ≤ far2 ∧ (s.testBit i = true → 0 ≤ pay n ch be s i) := by
  intro k
  induction k using Nat.strongRecOn with
  | _ k ih =>
    intro s i hk h0 hi
    have hs : s < 2 ^ n := by omega
    have hfar : far2 = 1099511627776 := rfl
    rw [pay_eq hs]
    have hm1 : 0 ≤ (if s = 2 ^ n - 1 then (0 : Int) else far2) ∧ (if s = 2 ^ n - 1 then (0 : Int) else far2) ≤ far2 := by split <;> omega
    generalize (if s = 2 ^ n - 1 then (0 : Int) else far2) = m0 at hm1 ⊢
    split
    · have hle := (bestJ_le (be := be) (f := fun j => cst ch i j + pay n ch be (s ||| 2 ^ j) j) (s := s) (List.range n) m0).1
      have hge : 0 ≤ bestJ be (fun j => cst ch i j + pay n ch be (s ||| 2 ^ j) j) s m0 (List.range n) := by
        rcases bestJ_ex (be := be) (f := fun j => cst ch i j + pay n ch be (s ||| 2 ^ j) j) (s := s) (List.range n) m0 with h | ⟨j, hj, hf, h⟩
        · rw [h]; omega
        · rw [h]
          have hj := List.mem_range.1 hj
          have hgt := or_gt (fol_not hf)
          have hlt := or_lt hs hj
          have := ih (2 ^ n - (s ||| 2 ^ j)) (by omega) (s ||| 2 ^ j) j (by omega) (by omega) hj
          have h3 := this.2.2 (by rw [or_bit]; simp)
          have := (hc i j hi hj).1
          omega
      exact ⟨by omega, by omega, fun _ => hge⟩
    · rename_i h
      exact ⟨by omega, by omega, fun h2 => (h h2).elim⟩
theorem pay_full {n : Nat} {ch : Rows2} {be : Pairs} {i : Nat} (hi : i < n) : pay n ch be (2 ^ n - 1) i = 0 := by
  have hp := Nat.pow_pos (n := n) (show 0 < 2 by decide)
  rw [pay_eq (by omega), if_pos (by rw [full_bit, decide_eq_true hi]), if_pos rfl]
  rcases bestJ_ex (be := be) (f := fun j => cst ch i j + pay n ch be (2 ^ n - 1 ||| 2 ^ j) j) (s := 2 ^ n - 1) (List.range n) 0 with h | ⟨j, hj, hf, h⟩
  · exact h
  · have := fol_not hf
    rw [full_bit, decide_eq_true (List.mem_range.1 hj)] at this
    simp at this
/-- with an order, what is to be paid stays small -/
theorem pay_small {n : Nat} {ch : Rows2} {be : Pairs} (hc : Costs n ch) (hp : possible be n = true) : ∀ (k s i : Nat), s + k + 1 = 2 ^ n → i < n → pay n ch be s i ≤ 1000 * k := by
  intro k
  induction k using Nat.strongRecOn with
  | _ k ih =>
    intro s i hk hi
    by_cases hfull : s = 2 ^ n - 1
    · subst hfull
      rw [pay_full hi]; omega
    · rw [pay_eq (by omega)]
      generalize (if s = 2 ^ n - 1 then (0 : Int) else far2) = m0
      split
      · obtain ⟨j, hj, hf⟩ := goes_on hp (S := s) (by omega) hfull
        have hle := (bestJ_le (be := be) (f := fun j => cst ch i j + pay n ch be (s ||| 2 ^ j) j) (s := s) (List.range n) m0).2 j (List.mem_range.2 hj) hf
        have hgt := or_gt (fol_not hf)
        have hlt := or_lt (show s < 2 ^ n by omega) hj
        have := ih (2 ^ n - (s ||| 2 ^ j) - 1) (by omega) (s ||| 2 ^ j) j (by omega) hj
        have := (hc i j hi hj).2
        omega
      · omega
/-! the price table -/
def priceT (n : Nat) (ch : Rows2) (be : Pairs) : List Int := mkT (n * 2 ^ n) fun x => pay n ch be (x / n) (x % n)
theorem ix_div {n s i : Nat} (hi : i < n) : (n * s + i) / n = s ∧ (n * s + i) % n = i := by
  refine ⟨?_, ?_⟩
  · rw [Nat.mul_add_div (by omega), Nat.div_eq_of_lt hi, Nat.add_zero]
  · rw [Nat.mul_add_mod, Nat.mod_eq_of_lt hi]
theorem ix_lt {n s i m : Nat} (hi : i < n) (hs : s < m) : n * s + i < n * m := by
  have : n * (s + 1) ≤ n * m := Nat.mul_le_mul_left _ (by omega)
  rw [Nat.mul_succ] at this; omega
theorem price_get {n : Nat} {ch : Rows2} {be : Pairs} {s i : Nat} (hi : i < n) (hs : s < 2 ^ n) : (priceT n ch be).getD (n * s + i) 0 = pay n ch be s i := by
  rw [priceT, mkT_get (ix_lt hi hs), (ix_div hi).1, (ix_div hi).2]

/-! orders and their costs -/
/-- what bath j costs after 'last' -/
def after1 (st : List Int) (ch : Rows2) : Option Nat → Nat → Int
  | none, j => st.getD j 0
  | some i, j => cst ch i j
def sumO (st : List Int) (ch : Rows2) : Option Nat → List Nat → Int
  | _, [] => 0
  | last, j :: l => after1 st ch last j + sumO st ch (some j) l
/-- an order from the set s on -/
def okO (n : Nat) (be : Pairs) : Nat → List Nat → Bool
  | _, [] => true
  | s, j :: l => decide (j < n) && fol be s j && okO n be (s ||| 2 ^ j) l
def endO : Nat → List Nat → Nat
  | s, [] => s
  | s, j :: l => endO (s ||| 2 ^ j) l
/-- how many baths are in the set -/
def pc (n s : Nat) : Nat := ((List.range n).filter (s.testBit ·)).length
theorem pc_or {n s j : Nat} (hj : j < n) (h : s.testBit j = false) : pc n (s ||| 2 ^ j) = pc n s + 1 := by
  have key : ∀ m, ((List.range m).filter ((s ||| 2 ^ j).testBit ·)).length = ((List.range m).filter (s.testBit ·)).length + if j < m then 1 else 0 := by
    intro m
    induction m with
    | zero => simp
    | succ m ih =>
      rw [List.range_succ, List.filter_append, List.filter_append, List.length_append, List.length_append, ih]
      by_cases e : j = m
      · subst e
        simp [or_bit, h]
      · have : (s ||| 2 ^ j).testBit m = s.testBit m := by rw [or_bit, decide_eq_false e, Bool.or_false]
        simp only [List.filter_cons, List.filter_nil, this]
        split <;> split <;> split <;> simp <;> omega
  have := key n
  rw [if_pos hj] at this
  exact this
theorem pc_full {n s : Nat} (hs : s < 2 ^ n) : pc n s = n ↔ s = 2 ^ n - 1 := by
  constructor
  · intro h
    refine Nat.eq_of_testBit_eq fun i => ?_
    rw [full_bit]
    by_cases hi : i < n
    · rw [decide_eq_true hi]
      have h1 : (List.range n).filter (s.testBit ·) = List.range n := by
        refine List.Sublist.eq_of_length List.filter_sublist ?_
        have : ((List.range n).filter (s.testBit ·)).length = n := h
        rw [this, List.length_range]
      have := List.filter_eq_self.1 h1 i (List.mem_range.2 hi)
      exact this
    · rw [decide_eq_false hi]
      exact Nat.testBit_lt_two_pow (Nat.lt_of_lt_of_le hs (Nat.pow_le_pow_right (by decide) (by omega)))
  · rintro rfl
    have : (List.range n).filter ((2 ^ n - 1).testBit ·) = List.range n := by
      refine List.filter_eq_self.2 fun i hi => ?_
      rw [full_bit, decide_eq_true (List.mem_range.1 hi)]
    unfold pc
    rw [this, List.length_range]
theorem pc_le (n s : Nat) : pc n s ≤ n := by
  have := List.length_filter_le (s.testBit ·) (List.range n)
  rw [List.length_range] at this
  exact this
theorem pc_zero (n : Nat) : pc n 0 = 0 := by simp [pc]
theorem okO_pc {n : Nat} {be : Pairs} : ∀ (l : List Nat) (s : Nat), s < 2 ^ n → okO n be s l = true → pc n (endO s l) = pc n s + l.length ∧ endO s l < 2 ^ n
  | [], s, hs, _ => ⟨rfl, hs⟩
  | j :: l, s, hs, h => by
    simp only [okO, Bool.and_eq_true, decide_eq_true_eq] at h
    obtain ⟨h1, h2⟩ := okO_pc l (s ||| 2 ^ j) (or_lt hs h.1.1) h.2
    refine ⟨?_, h2⟩
    show pc n (endO (s ||| 2 ^ j) l) = _
    rw [h1, pc_or h.1.1 (fol_not h.1.2), List.length_cons]; omega
theorem okO_more {n : Nat} {be be' : Pairs} (hb : ∀ b ∈ be, b ∈ be') : ∀ (l : List Nat) (s : Nat), okO n be' s l = true → okO n be s l = true
  | [], s, _ => rfl
  | j :: l, s, h => by
    simp only [okO, Bool.and_eq_true] at h ⊢
    exact ⟨⟨h.1.1, fol_more hb h.1.2⟩, okO_more hb l _ h.2⟩

/-! the cheapest first order -/
/-- what is still to be paid behind 'last' -/
def rest (n : Nat) (st : List Int) (ch : Rows2) (be : Pairs) (s : Nat) (last : Option Nat) : Int :=
  bestJ be (fun j => after1 st ch last j + pay n ch be (s ||| 2 ^ j) j) s (2 * far2) (List.range n)
def pick (n : Nat) (st : List Int) (ch : Rows2) (be : Pairs) (s : Nat) (last : Option Nat) : Option Nat :=
  (List.range n).find? fun j => fol be s j && decide (after1 st ch last j + pay n ch be (s ||| 2 ^ j) j = rest n st ch be s last)
def bestO (n : Nat) (st : List Int) (ch : Rows2) (be : Pairs) : Nat → Nat → Option Nat → List Nat
  | 0, _, _ => []
  | k + 1, s, last => match pick n st ch be s last with
    | some j => j :: bestO n st ch be k (s ||| 2 ^ j) (some j)
    | none => []
structure PlanOk (n : Nat) (st : List Int) (ch : Rows2) : Prop where
  start : ∀ j, j < n → 0 ≤ st.getD j 0 ∧ st.getD j 0 ≤ 1000
  change : Costs n ch
  few : n ≤ 10
theorem after1_bd {n : Nat} {st : List Int} {ch : Rows2} (h : PlanOk n st ch) {last : Option Nat} (hl : ∀ i, last = some i → i < n) {j : Nat} (hj : j < n) : 0 ≤ after1 st ch last j ∧ after1 st ch last j ≤ 1000 := by
  cases last with
  | none => exact h.start j hj
  | some i => exact h.change i j (hl i rfl) hj
theorem pow_few {n : Nat} (h : n ≤ 10) : 2 ^ n ≤ 1024 := Nat.pow_le_pow_right (n := 2) (by decide) h
theorem rest_pay {n : Nat} {st : List Int} {ch : Rows2} {be : Pairs} (h : PlanOk n st ch) (hp : possible be n = true) {s i : Nat} (hs : s < 2 ^ n) (hi : i < n) (hb : s.testBit i = true) (hne : s ≠ 2 ^ n - 1) : rest n st ch be s (some i) = pay n ch be s i := by
  have hfar : far2 = 1099511627776 := rfl
  have h10 := pow_few h.few
  obtain ⟨j, hj, hf⟩ := goes_on hp hs hne
  have hlt := or_lt hs hj
  have hgt := or_gt (fol_not hf)
  have hsm := pay_small h.change hp (2 ^ n - (s ||| 2 ^ j) - 1) (s ||| 2 ^ j) j (by omega) hj
  have hc := (h.change i j hi hj).2
  rw [pay_eq hs, if_pos hb, if_neg hne, rest]
  have A := bestJ_le (be := be) (f := fun j => after1 st ch (some i) j + pay n ch be (s ||| 2 ^ j) j) (s := s) (List.range n) (2 * far2)
  have B := bestJ_le (be := be) (f := fun j => cst ch i j + pay n ch be (s ||| 2 ^ j) j) (s := s) (List.range n) far2
  have A1 := A.2 j (List.mem_range.2 hj) hf
  have B1 := B.2 j (List.mem_range.2 hj) hf
  dsimp only [after1] at A1 B1
  refine Int.le_antisymm ?_ ?_
  · rcases bestJ_ex (be := be) (f := fun j => cst ch i j + pay n ch be (s ||| 2 ^ j) j) (s := s) (List.range n) far2 with e | ⟨x, hx, hfx, e⟩
    · rw [e]; dsimp only [after1]; omega
    · rw [e]; exact A.2 x hx hfx
  · rcases bestJ_ex (be := be) (f := fun j => after1 st ch (some i) j + pay n ch be (s ||| 2 ^ j) j) (s := s) (List.range n) (2 * far2) with e | ⟨x, hx, hfx, e⟩
    · rw [e]; omega
    · rw [e]; exact B.2 x hx hfx
theorem pick_ex {n : Nat} {st : List Int} {ch : Rows2} {be : Pairs} (h : PlanOk n st ch) (hp : possible be n = true) {s : Nat} {last : Option Nat} (hs : s < 2 ^ n) (hl : ∀ i, last = some i → i < n) (hne : s ≠ 2 ^ n - 1) :
    ∃ j, pick n st ch be s last = some j ∧ j < n ∧ fol be s j = true ∧ after1 st ch last j + pay n ch be (s ||| 2 ^ j) j = rest n st ch be s last ∧ rest n st ch be s last ≤ 1025000 := by
  have hfar : far2 = 1099511627776 := rfl
  have h10 := pow_few h.few
  obtain ⟨j0, hj0, hf0⟩ := goes_on hp hs hne
  have hlt := or_lt hs hj0
  have hgt := or_gt (fol_not hf0)
  have hsm := pay_small h.change hp (2 ^ n - (s ||| 2 ^ j0) - 1) (s ||| 2 ^ j0) j0 (by omega) hj0
  have hc := (after1_bd h hl hj0).2
  have A := (bestJ_le (be := be) (f := fun j => after1 st ch last j + pay n ch be (s ||| 2 ^ j) j) (s := s) (List.range n) (2 * far2)).2 j0 (List.mem_range.2 hj0) hf0
  have A0 : rest n st ch be s last ≤ after1 st ch last j0 + pay n ch be (s ||| 2 ^ j0) j0 := A
  have hbd : rest n st ch be s last ≤ 1025000 := by omega
  have hex : ∃ j ∈ List.range n, fol be s j = true ∧ rest n st ch be s last = after1 st ch last j + pay n ch be (s ||| 2 ^ j) j := by
    rcases bestJ_ex (be := be) (f := fun j => after1 st ch last j + pay n ch be (s ||| 2 ^ j) j) (s := s) (List.range n) (2 * far2) with e | e
    · have : rest n st ch be s last = 2 * far2 := e
      omega
    · exact e
  cases hpk : pick n st ch be s last with
  | none =>
    obtain ⟨j, hj, hf, he⟩ := hex
    have := List.find?_eq_none.1 hpk j hj
    simp [hf, he] at this
  | some j =>
    have h1 := List.find?_some hpk
    have h2 := List.mem_of_find?_eq_some hpk
    simp only [Bool.and_eq_true, decide_eq_true_eq] at h1
    exact ⟨j, rfl, List.mem_range.1 h2, h1.1, h1.2, hbd⟩
/-- slices.Compare -/
def cmpN : List Nat → List Nat → Int
  | [], [] => 0
  | [], _ :: _ => -1
  | _ :: _, [] => 1
  | a :: l, b :: r => if a < b then -1 else if b < a then 1 else cmpN l r
theorem best_ok {n : Nat} {st : List Int} {ch : Rows2} {be : Pairs} (h : PlanOk n st ch) (hp : possible be n = true) : ∀ (k s : Nat) (last : Option Nat), s < 2 ^ n → (∀ i, last = some i → i < n) → pc n s + k = n →
    okO n be s (bestO n st ch be k s last) = true ∧ (bestO n st ch be k s last).length = k ∧ (0 < k → sumO st ch last (bestO n st ch be k s last) = rest n st ch be s last) ∧
    ∀ l, okO n be s l = true → l.length = k → sumO st ch last (bestO n st ch be k s last) ≤ sumO st ch last l ∧ (sumO st ch last (bestO n st ch be k s last) = sumO st ch last l → cmpN (bestO n st ch be k s last) l ≤ 0)
  | 0, s, last, hs, hl, hpc => by
    refine ⟨rfl, rfl, fun h => by omega, fun l _ hll => ?_⟩
    have : l = [] := List.length_eq_zero_iff.1 hll
    subst this
    exact ⟨Int.le_refl _, fun _ => by simp [bestO, cmpN]⟩
  | k + 1, s, last, hs, hl, hpc => by
    have hne : s ≠ 2 ^ n - 1 := fun e => by have := (pc_full hs).2 e; omega
    obtain ⟨j, hpk, hj, hf, he, hbd⟩ := pick_ex h hp hs hl hne
    have hlt := or_lt hs hj
    have hpc' := pc_or hj (fol_not hf)
    obtain ⟨i1, i2, i3, i4⟩ := best_ok h hp k (s ||| 2 ^ j) (some j) hlt (fun i hi => by cases hi; exact hj) (by omega)
    have hb : bestO n st ch be (k + 1) s last = j :: bestO n st ch be k (s ||| 2 ^ j) (some j) := by rw [bestO, hpk]
    -- what is left behind any bath
    have left : ∀ x, x < n → fol be s x = true → ∀ l, okO n be (s ||| 2 ^ x) l = true → l.length = k → pay n ch be (s ||| 2 ^ x) x ≤ sumO st ch (some x) l ∧ ∀ (hx : x = j), sumO st ch (some j) (bestO n st ch be k (s ||| 2 ^ j) (some j)) = pay n ch be (s ||| 2 ^ x) x := by
      intro x hx hfx l hol hll
      have hltx := or_lt hs hx
      have hpcx := pc_or hx (fol_not hfx)
      have hbx : (s ||| 2 ^ x).testBit x = true := by rw [or_bit]; simp
      obtain ⟨m1, m2, m3, m4⟩ := best_ok h hp k (s ||| 2 ^ x) (some x) hltx (fun i hi => by cases hi; exact hx) (by omega)
      have h4 := (m4 l hol hll).1
      by_cases hk : 0 < k
      · have hnex : (s ||| 2 ^ x) ≠ 2 ^ n - 1 := fun e => by have := (pc_full hltx).2 e; omega
        have h3 := m3 hk
        rw [rest_pay h hp hltx hx hbx hnex] at h3
        exact ⟨by omega, fun e => by subst e; exact h3⟩
      · have hk0 : k = 0 := by omega
        subst hk0
        have hfx2 : (s ||| 2 ^ x) = 2 ^ n - 1 := (pc_full hltx).1 (by omega)
        have hl0 : l = [] := List.length_eq_zero_iff.1 hll
        subst hl0
        rw [hfx2, pay_full hx]
        exact ⟨Int.le_refl _, fun e => by subst e; rfl⟩
    have hsum : sumO st ch last (bestO n st ch be (k + 1) s last) = rest n st ch be s last := by
      rw [hb]
      show after1 st ch last j + sumO st ch (some j) _ = _
      rw [(left j hj hf _ i1 i2).2 rfl, he]
    refine ⟨?_, by rw [hb, List.length_cons, i2], fun _ => hsum, fun l hol hll => ?_⟩
    · rw [hb]
      show (decide (j < n) && fol be s j && okO n be (s ||| 2 ^ j) _) = true
      rw [decide_eq_true hj, hf, i1]; rfl
    · cases l with
      | nil => simp at hll
      | cons x l =>
        simp only [okO, Bool.and_eq_true, decide_eq_true_eq] at hol
        rw [List.length_cons] at hll
        have hx := hol.1.1
        have hfx := hol.1.2
        have hL := (left x hx hfx l hol.2 (by omega)).1
        have hR : rest n st ch be s last ≤ after1 st ch last x + pay n ch be (s ||| 2 ^ x) x :=
          (bestJ_le (be := be) (f := fun j => after1 st ch last j + pay n ch be (s ||| 2 ^ j) j) (s := s) (List.range n) (2 * far2)).2 x (List.mem_range.2 hx) hfx
        rw [hsum]
        show rest n st ch be s last ≤ after1 st ch last x + sumO st ch (some x) l ∧ (rest n st ch be s last = after1 st ch last x + sumO st ch (some x) l → _)
        refine ⟨by omega, fun heq => ?_⟩
        rw [hb]
        show (if j < x then (-1 : Int) else if x < j then 1 else cmpN _ l) ≤ 0
        have hge : ¬ x < j := by
          intro hxj
          have hfind := hpk
          unfold pick at hfind
          obtain ⟨_, as, bs, hsp, hno⟩ := List.find?_eq_some_iff_append.1 hfind
          have hxm : x ∈ as := by
            have hs2 : (List.range n).Pairwise (· < ·) := List.pairwise_lt_range
            have hm : x ∈ List.range n := List.mem_range.2 hx
            rw [hsp] at hs2 hm
            rcases List.mem_append.1 hm with hm | hm
            · exact hm
            · rcases List.mem_cons.1 hm with rfl | hm
              · omega
              · have := (List.pairwise_cons.1 (List.pairwise_append.1 hs2).2.1).1 x hm
                omega
          have := hno x hxm
          rw [hfx] at this
          have e : after1 st ch last x + pay n ch be (s ||| 2 ^ x) x = rest n st ch be s last := by omega
          simp [e] at this
        by_cases hjx : j < x
        · rw [if_pos hjx]; omega
        · rw [if_neg hjx, if_neg hge]
          have : x = j := by omega
          subst this
          have h5 := (left x hx hfx l hol.2 (by omega)).2 rfl
          exact (i4 l hol.2 (by omega)).2 (by omega)

/-! tables that are sound -/
structure SoundP (n : Nat) (ch : Rows2) (be : Pairs) (t : List Int) : Prop where
  full : ∀ i, i < n → t.getD (n * (2 ^ n - 1) + i) 0 ≤ 0
  step : ∀ s i j, s < 2 ^ n → i < n → j < n → s.testBit i = true → fol be s j = true → t.getD (n * s + i) 0 ≤ cst ch i j + t.getD (n * (s ||| 2 ^ j) + j) 0
theorem soundP_bound {n : Nat} (st : List Int) {ch : Rows2} {be : Pairs} {t : List Int} (h : SoundP n ch be t) : ∀ (l : List Nat) (s i : Nat), s < 2 ^ n → i < n → s.testBit i = true → okO n be s l = true → endO s l = 2 ^ n - 1 → t.getD (n * s + i) 0 ≤ sumO st ch (some i) l
  | [], s, i, hs, hi, hb, _, he => by
    have : s = 2 ^ n - 1 := he
    subst this
    exact h.full i hi
  | j :: l, s, i, hs, hi, hb, ho, he => by
    simp only [okO, Bool.and_eq_true, decide_eq_true_eq] at ho
    have h1 := h.step s i j hs hi ho.1.1 hb ho.1.2
    have h2 := soundP_bound st h l (s ||| 2 ^ j) j (or_lt hs ho.1.1) ho.1.1 (by rw [or_bit]; simp) ho.2 he
    show _ ≤ cst ch i j + sumO st ch (some j) l
    omega
def leastP (n : Nat) (st : List Int) (be : Pairs) (t : List Int) : Int := bestJ be (fun i => st.getD i 0 + t.getD (n * 2 ^ i + i) 0) 0 (2 * far2) (List.range n)
theorem least_bound {n : Nat} {st : List Int} {ch : Rows2} {be : Pairs} {t : List Int} (h : SoundP n ch be t) {o : List Nat} (ho : okO n be 0 o = true) (hl : o.length = n) (hn : 0 < n) : leastP n st be t ≤ sumO st ch none o := by
  have hp := Nat.pow_pos (n := n) (show 0 < 2 by decide)
  obtain ⟨h1, h2⟩ := okO_pc o 0 hp ho
  rw [pc_zero] at h1
  have hfull := (pc_full h2).1 (by omega)
  cases o with
  | nil => simp at hl; omega
  | cons j l =>
    simp only [okO, Bool.and_eq_true, decide_eq_true_eq] at ho
    have h3 := (bestJ_le (be := be) (f := fun i => st.getD i 0 + t.getD (n * 2 ^ i + i) 0) (s := 0) (List.range n) (2 * far2)).2 j (List.mem_range.2 ho.1.1) ho.1.2
    have e0 : 0 ||| 2 ^ j = 2 ^ j := Nat.zero_or _
    have h4 := soundP_bound st h l (0 ||| 2 ^ j) j (or_lt hp ho.1.1) ho.1.1 (by rw [or_bit]; simp) ho.2 hfull
    rw [e0] at h4
    show leastP n st be t ≤ st.getD j 0 + sumO st ch (some j) l
    unfold leastP
    omega
theorem price_sound {n : Nat} {ch : Rows2} {be : Pairs} : SoundP n ch be (priceT n ch be) := by
  have hp := Nat.pow_pos (n := n) (show 0 < 2 by decide)
  refine ⟨fun i hi => by rw [price_get hi (by omega), pay_full hi]; exact Int.le_refl _, fun s i j hs hi hj hb hf => ?_⟩
  rw [price_get hi hs, price_get hj (or_lt hs hj), pay_eq hs, if_pos hb]
  exact (bestJ_le (be := be) (f := fun j => cst ch i j + pay n ch be (s ||| 2 ^ j) j) (s := s) (List.range n) _).2 j (List.mem_range.2 hj) hf
theorem least_price {n : Nat} {st : List Int} {ch : Rows2} {be : Pairs} : leastP n st be (priceT n ch be) = rest n st ch be 0 none := by
  unfold leastP rest
  refine bestJ_congr _ _ fun j hj hf => ?_
  have hj := List.mem_range.1 hj
  have hp := Nat.pow_lt_pow_right (a := 2) (by decide) hj
  rw [price_get hj hp, Nat.zero_or]; rfl

end Go.Proofs.YtgeahmmepfmcoaaDoor
