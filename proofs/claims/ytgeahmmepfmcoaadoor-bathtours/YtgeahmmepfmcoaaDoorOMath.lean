/- parts that the proof of BathTours uses -/
import Derived.Test.YtgeahmmepfmcoaaDoorBits
namespace Go.Proofs.YtgeahmmepfmcoaaDoor
open Go Go.RowKit L
set_option linter.unusedVariables false
set_option linter.unusedSimpArgs false

abbrev Pairs := List (Nat × Nat)
def fol (be : Pairs) (s j : Nat) : Bool := !s.testBit j && be.all fun b => !(b.2 == j) || s.testBit b.1
def needN (be : Pairs) (j : Nat) : Nat := be.foldl (fun s b => if b.2 = j then s ||| 2 ^ b.1 else s) 0
theorem fol_not {be : Pairs} {s j : Nat} (h : fol be s j = true) : s.testBit j = false := by
  unfold fol at h; simp at h; exact h.1
theorem fol_sub {be : Pairs} {s s' j : Nat} (h : fol be s j = true) (hs : ∀ k, s.testBit k = true → s'.testBit k = true) (hj : s'.testBit j = false) : fol be s' j = true := by
  unfold fol at h ⊢
  simp only [Bool.and_eq_true, List.all_eq_true, Bool.not_eq_true'] at h ⊢
  refine ⟨hj, fun b hb => ?_⟩
  have := h.2 b hb
  by_cases e : b.2 = j
  · simp [e] at this ⊢; exact hs _ this
  · simp [e]
def addAll (be : Pairs) (l : List Nat) (s : Nat) : Nat := l.foldl (fun s j => if fol be s j then s ||| 2 ^ j else s) s
def posSet (be : Pairs) (n : Nat) : Nat → Nat
  | 0 => 0
  | k + 1 => addAll be (List.range n) (posSet be n k)
def possible (be : Pairs) (n : Nat) : Bool := decide (posSet be n n = 2 ^ n - 1)
theorem addAll_in {be : Pairs} {S : Nat} : ∀ (l : List Nat) (s : Nat), (∀ j ∈ l, fol be S j = false) → (∀ k, s.testBit k = true → S.testBit k = true) → ∀ k, (addAll be l s).testBit k = true → S.testBit k = true
  | [], s, _, h => h
  | j :: l, s, hno, h => by
    show ∀ k, (addAll be l (if fol be s j then s ||| 2 ^ j else s)).testBit k = true → _
    refine addAll_in l _ (fun x hx => hno x (by simp [hx])) ?_
    split
    · rename_i hf
      intro k hk
      rw [or_bit, Bool.or_eq_true, decide_eq_true_eq] at hk
      rcases hk with hk | rfl
      · exact h k hk
      · cases hS : S.testBit j with
        | true => rfl
        | false =>
          have := fol_sub hf h hS
          rw [hno j (by simp)] at this
          simp at this
    · exact h
theorem posSet_in {be : Pairs} {n S : Nat} (hno : ∀ j, j < n → fol be S j = false) : ∀ (k i : Nat), (posSet be n k).testBit i = true → S.testBit i = true
  | 0, i, h => by simp [posSet] at h
  | k + 1, i, h => addAll_in (List.range n) _ (fun j hj => hno j (List.mem_range.1 hj)) (posSet_in hno k) i h
theorem goes_on {be : Pairs} {n : Nat} (h : possible be n = true) {S : Nat} (hS : S < 2 ^ n) (hne : S ≠ 2 ^ n - 1) : ∃ j, j < n ∧ fol be S j = true := by
  have hfull : posSet be n n = 2 ^ n - 1 := of_decide_eq_true h
  by_cases hex : ∃ j, j < n ∧ fol be S j = true
  · exact hex
  · exfalso
    have hno : ∀ j, j < n → fol be S j = false := fun j hj => by
      cases hf : fol be S j with
      | false => rfl
      | true => exact (hex ⟨j, hj, hf⟩).elim
    apply hne
    refine Nat.eq_of_testBit_eq fun i => ?_
    rw [full_bit]
    by_cases hi : i < n
    · rw [decide_eq_true hi]
      exact posSet_in hno n i (by rw [hfull, full_bit, decide_eq_true hi])
    · rw [decide_eq_false hi]
      exact Nat.testBit_lt_two_pow (Nat.lt_of_lt_of_le hS (Nat.pow_le_pow_right (by decide) (by omega)))

abbrev Rows2 := List (List Int)
def cst (ch : Rows2) (i j : Nat) : Int := (ch.getD i []).getD j 0
def far2 : Int := 1099511627776
def bestJ (be : Pairs) (f : Nat → Int) (s : Nat) (m : Int) (l : List Nat) : Int := l.foldl (fun m j => if fol be s j then min m (f j) else m) m
def valF (n : Nat) (ch : Rows2) (be : Pairs) : Nat → Nat → Nat → Int
  | 0, s, i => -1
  | f + 1, s, i => if s.testBit i then bestJ be (fun j => cst ch i j + valF n ch be f (s ||| 2 ^ j) j) s (if s = 2 ^ n - 1 then 0 else far2) (List.range n) else -1
theorem bestJ_congr {be : Pairs} {f g : Nat → Int} {s : Nat} : ∀ (l : List Nat) (m : Int), (∀ j ∈ l, fol be s j = true → f j = g j) → bestJ be f s m l = bestJ be g s m l
  | [], m, _ => rfl
  | j :: l, m, h => by
    show bestJ be f s (if fol be s j then min m (f j) else m) l = bestJ be g s (if fol be s j then min m (g j) else m) l
    rw [bestJ_congr l _ (fun x hx => h x (by simp [hx]))]
    by_cases hf : fol be s j = true
    · rw [h j (by simp) hf]
    · simp [hf]
theorem bestJ_le {be : Pairs} {f : Nat → Int} {s : Nat} : ∀ (l : List Nat) (m : Int), bestJ be f s m l ≤ m ∧ ∀ j ∈ l, fol be s j = true → bestJ be f s m l ≤ f j
  | [], m => ⟨Int.le_refl _, by simp⟩
  | j :: l, m => by
    obtain ⟨h1, h2⟩ := bestJ_le (be := be) (f := f) (s := s) l (if fol be s j then min m (f j) else m)
    show bestJ be f s (if fol be s j then min m (f j) else m) l ≤ m ∧ _
    refine ⟨?_, fun x hx hf => ?_⟩
    · by_cases hf : fol be s j = true
      · rw [if_pos hf] at h1 ⊢; omega
      · rw [if_neg hf] at h1 ⊢; omega
    · show bestJ be f s (if fol be s j then min m (f j) else m) l ≤ _
      rcases List.mem_cons.1 hx with rfl | hx
      · rw [if_pos hf] at h1 ⊢; omega
      · exact h2 x hx hf
theorem bestJ_ex {be : Pairs} {f : Nat → Int} {s : Nat} : ∀ (l : List Nat) (m : Int), bestJ be f s m l = m ∨ ∃ j ∈ l, fol be s j = true ∧ bestJ be f s m l = f j
  | [], m => .inl rfl
  | j :: l, m => by
    show bestJ be f s (if fol be s j then min m (f j) else m) l = m ∨ ∃ x ∈ j :: l, _ ∧ bestJ be f s (if fol be s j then min m (f j) else m) l = f x
    rcases bestJ_ex (be := be) (f := f) (s := s) l (if fol be s j then min m (f j) else m) with h | ⟨x, hx, hf, h⟩
    · by_cases hf : fol be s j = true
      · rw [if_pos hf] at h ⊢
        by_cases hm : m ≤ f j
        · left; omega
        · right; exact ⟨j, by simp, hf, by omega⟩
      · rw [if_neg hf] at h ⊢; exact .inl h
    · exact .inr ⟨x, by simp [hx], hf, h⟩
theorem bestJ_snoc {be : Pairs} {f : Nat → Int} {s j n : Nat} {m : Int} : bestJ be f s m (List.range (j + 1)) = if fol be s j then min (bestJ be f s m (List.range j)) (f j) else bestJ be f s m (List.range j) := by
  simp only [bestJ, List.range_succ, List.foldl_append, List.foldl_cons, List.foldl_nil]
theorem valF_fuel {n : Nat} {ch : Rows2} {be : Pairs} : ∀ (f g s i : Nat), s < 2 ^ n → 2 ^ n ≤ f + s → 2 ^ n ≤ g + s → valF n ch be f s i = valF n ch be g s i
  | 0, g, s, i, hs, hf, hg => by omega
  | f + 1, 0, s, i, hs, hf, hg => by omega
  | f + 1, g + 1, s, i, hs, hf, hg => by
    rw [valF, valF]
    congr 1
    refine bestJ_congr _ _ fun j hj hfol => ?_
    have := or_gt (fol_not hfol)
    rw [valF_fuel f g (s ||| 2 ^ j) j (or_lt hs (List.mem_range.1 hj)) (by omega) (by omega)]
def pay (n : Nat) (ch : Rows2) (be : Pairs) (s i : Nat) : Int := valF n ch be (2 ^ n) s i
theorem pay_eq {n : Nat} {ch : Rows2} {be : Pairs} {s : Nat} (hs : s < 2 ^ n) (i : Nat) : pay n ch be s i = if s.testBit i then bestJ be (fun j => cst ch i j + pay n ch be (s ||| 2 ^ j) j) s (if s = 2 ^ n - 1 then 0 else far2) (List.range n) else -1 := by
  have e : pay n ch be s i = valF n ch be (2 ^ n + 1) s i := valF_fuel _ _ _ _ hs (by omega) (by omega)
  rw [e, valF]; rfl

def Costs (n : Nat) (ch : Rows2) : Prop := ∀ i j, i < n → j < n → 0 ≤ cst ch i j ∧ cst ch i j ≤ 1000
theorem pay_full {n : Nat} {ch : Rows2} {be : Pairs} {i : Nat} (hi : i < n) : pay n ch be (2 ^ n - 1) i = 0 := by
  have hp := Nat.pow_pos (n := n) (show 0 < 2 by decide)
  rw [pay_eq (by omega), if_pos (by rw [full_bit, decide_eq_true hi]), if_pos rfl]
  rcases bestJ_ex (be := be) (f := fun j => cst ch i j + pay n ch be (2 ^ n - 1 ||| 2 ^ j) j) (s := 2 ^ n - 1) (List.range n) 0 with h | ⟨j, hj, hf, h⟩
  · exact h
  · have := fol_not hf
    rw [full_bit, decide_eq_true (List.mem_range.1 hj)] at this
    simp at this
theorem pay_small {n : Nat} {ch : Rows2} {be : Pairs} (hc : Costs n ch) (hp : possible be n = true) : ∀ (k s i : Nat), s + k + 1 = 2 ^ n → i < n → pay n ch be s i ≤ 1000 * k := by
  intro k
  induction k using Nat.strongRecOn with
  | _ k ih =>
    intro s i hk hi
    by_cases hfull : s = 2 ^ n - 1
    · subst hfull
      rw [pay_full hi]; omega
    · rw [pay_eq (by omega)]
      generalize (if s = 2 ^ n - 1 then (0 : Int) else far2) = m0
      split
      · obtain ⟨j, hj, hf⟩ := goes_on hp (S := s) (by omega) hfull
        have hle := (bestJ_le (be := be) (f := fun j => cst ch i j + pay n ch be (s ||| 2 ^ j) j) (s := s) (List.range n) m0).2 j (List.mem_range.2 hj) hf
        have hgt := or_gt (fol_not hf)
        have hlt := or_lt (show s < 2 ^ n by omega) hj
        have := ih (2 ^ n - (s ||| 2 ^ j) - 1) (by omega) (s ||| 2 ^ j) j (by omega) hj
        have := (hc i j hi hj).2
        omega
      · omega
def after1 (st : List Int) (ch : Rows2) : Option Nat → Nat → Int
  | none, j => st.getD j 0
  | some i, j => cst ch i j
def okO (n : Nat) (be : Pairs) : Nat → List Nat → Bool
  | _, [] => true
  | s, j :: l => decide (j < n) && fol be s j && okO n be (s ||| 2 ^ j) l
def endO : Nat → List Nat → Nat
  | s, [] => s
  | s, j :: l => endO (s ||| 2 ^ j) l
def pc (n s : Nat) : Nat := ((List.range n).filter (s.testBit ·)).length
theorem pc_or {n s j : Nat} (hj : j < n) (h : s.testBit j = false) : pc n (s ||| 2 ^ j) = pc n s + 1 := by
  have key : ∀ m, ((List.range m).filter ((s ||| 2 ^ j).testBit ·)).length = ((List.range m).filter (s.testBit ·)).length + if j < m then 1 else 0 := by
    intro m
    induction m with
    | zero => simp
    | succ m ih =>
      rw [List.range_succ, List.filter_append, List.filter_append, List.length_append, List.length_append, ih]
      by_cases e : j = m
      · subst e
        simp [or_bit, h]
      · have : (s ||| 2 ^ j).testBit m = s.testBit m := by rw [or_bit, decide_eq_false e, Bool.or_false]
        simp only [List.filter_cons, List.filter_nil, this]
        split <;> split <;> split <;> simp <;> omega
  have := key n
  rw [if_pos hj] at this
  exact this
theorem pc_full {n s : Nat} (hs : s < 2 ^ n) : pc n s = n ↔ s = 2 ^ n - 1 := by
  constructor
  · intro h
    refine Nat.eq_of_testBit_eq fun i => ?_
    rw [full_bit]
    by_cases hi : i < n
    · rw [decide_eq_true hi]
      have h1 : (List.range n).filter (s.testBit ·) = List.range n := by
        refine List.Sublist.eq_of_length List.filter_sublist ?_
        have : ((List.range n).filter (s.testBit ·)).length = n := h
        rw [this, List.length_range]
      have := List.filter_eq_self.1 h1 i (List.mem_range.2 hi)
      exact this
    · rw [decide_eq_false hi]
      exact Nat.testBit_lt_two_pow (Nat.lt_of_lt_of_le hs (Nat.pow_le_pow_right (by decide) (by omega)))
  · rintro rfl
    have : (List.range n).filter ((2 ^ n - 1).testBit ·) = List.range n := by
      refine List.filter_eq_self.2 fun i hi => ?_
      rw [full_bit, decide_eq_true (List.mem_range.1 hi)]
    unfold pc
    rw [this, List.length_range]
theorem pc_zero (n : Nat) : pc n 0 = 0 := by simp [pc]
theorem okO_pc {n : Nat} {be : Pairs} : ∀ (l : List Nat) (s : Nat), s < 2 ^ n → okO n be s l = true → pc n (endO s l) = pc n s + l.length ∧ endO s l < 2 ^ n
  | [], s, hs, _ => ⟨rfl, hs⟩
  | j :: l, s, hs, h => by
    simp only [okO, Bool.and_eq_true, decide_eq_true_eq] at h
    obtain ⟨h1, h2⟩ := okO_pc l (s ||| 2 ^ j) (or_lt hs h.1.1) h.2
    refine ⟨?_, h2⟩
    show pc n (endO (s ||| 2 ^ j) l) = _
    rw [h1, pc_or h.1.1 (fol_not h.1.2), List.length_cons]; omega
def rest (n : Nat) (st : List Int) (ch : Rows2) (be : Pairs) (s : Nat) (last : Option Nat) : Int :=
  bestJ be (fun j => after1 st ch last j + pay n ch be (s ||| 2 ^ j) j) s (2 * far2) (List.range n)
def pick (n : Nat) (st : List Int) (ch : Rows2) (be : Pairs) (s : Nat) (last : Option Nat) : Option Nat :=
  (List.range n).find? fun j => fol be s j && decide (after1 st ch last j + pay n ch be (s ||| 2 ^ j) j = rest n st ch be s last)
structure PlanOk (n : Nat) (st : List Int) (ch : Rows2) : Prop where
  start : ∀ j, j < n → 0 ≤ st.getD j 0 ∧ st.getD j 0 ≤ 1000
  change : Costs n ch
  few : n ≤ 10
theorem after1_bd {n : Nat} {st : List Int} {ch : Rows2} (h : PlanOk n st ch) {last : Option Nat} (hl : ∀ i, last = some i → i < n) {j : Nat} (hj : j < n) : 0 ≤ after1 st ch last j ∧ after1 st ch last j ≤ 1000 := by
  cases last with
  | none => exact h.start j hj
  | some i => exact h.change i j (hl i rfl) hj
theorem pow_few {n : Nat} (h : n ≤ 10) : 2 ^ n ≤ 1024 := Nat.pow_le_pow_right (n := 2) (by decide) h
theorem pick_ex {n : Nat} {st : List Int} {ch : Rows2} {be : Pairs} (h : PlanOk n st ch) (hp : possible be n = true) {s : Nat} {last : Option Nat} (hs : s < 2 ^ n) (hl : ∀ i, last = some i → i < n) (hne : s ≠ 2 ^ n - 1) :
    ∃ j, pick n st ch be s last = some j ∧ j < n ∧ fol be s j = true ∧ after1 st ch last j + pay n ch be (s ||| 2 ^ j) j = rest n st ch be s last ∧ rest n st ch be s last ≤ 1025000 := by
  have hfar : far2 = 1099511627776 := rfl
  have h10 := pow_few h.few
  obtain ⟨j0, hj0, hf0⟩ := goes_on hp hs hne
  have hlt := or_lt hs hj0
  have hgt := or_gt (fol_not hf0)
  have hsm := pay_small h.change hp (2 ^ n - (s ||| 2 ^ j0) - 1) (s ||| 2 ^ j0) j0 (by omega) hj0
  have hc := (after1_bd h hl hj0).2
  have A := (bestJ_le (be := be) (f := fun j => after1 st ch last j + pay n ch be (s ||| 2 ^ j) j) (s := s) (List.range n) (2 * far2)).2 j0 (List.mem_range.2 hj0) hf0
  have A0 : rest n st ch be s last ≤ after1 st ch last j0 + pay n ch be (s ||| 2 ^ j0) j0 := A
  have hbd : rest n st ch be s last ≤ 1025000 := by omega
  have hex : ∃ j ∈ List.range n, fol be s j = true ∧ rest n st ch be s last = after1 st ch last j + pay n ch be (s ||| 2 ^ j) j := by
    rcases bestJ_ex (be := be) (f := fun j => after1 st ch last j + pay n ch be (s ||| 2 ^ j) j) (s := s) (List.range n) (2 * far2) with e | e
    · have : rest n st ch be s last = 2 * far2 := e
      omega
    · exact e
  cases hpk : pick n st ch be s last with
  | none =>
    obtain ⟨j, hj, hf, he⟩ := hex
    have := List.find?_eq_none.1 hpk j hj
    simp [hf, he] at this
  | some j =>
    have h1 := List.find?_some hpk
    have h2 := List.mem_of_find?_eq_some hpk
    simp only [Bool.and_eq_true, decide_eq_true_eq] at h1
    exact ⟨j, rfl, List.mem_range.1 h2, h1.1, h1.2, hbd⟩
def cmpN : List Nat → List Nat → Int
  | [], [] => 0
  | [], _ :: _ => -1
  | _ :: _, [] => 1
  | a :: l, b :: r => if a < b then -1 else if b < a then 1 else cmpN l r
end Go.Proofs.YtgeahmmepfmcoaaDoor
