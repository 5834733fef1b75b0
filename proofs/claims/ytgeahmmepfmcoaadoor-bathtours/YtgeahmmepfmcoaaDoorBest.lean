/- parts that the proof of BathTours uses -/
import Derived.Test.YtgeahmmepfmcoaaDoorFew
namespace Go.Proofs.YtgeahmmepfmcoaaDoor
open Go Go.RowKit L
set_option linter.unusedVariables false
set_option linter.unusedSimpArgs false

theorem find_range {f : Nat → Bool} {n j : Nat} (hj : j < n) (hno : ∀ i, i < j → f i = false) (hy : f j = true) : (List.range n).find? f = some j := by
  have h : (List.range n) = List.range j ++ (List.range (n - j)).map (j + ·) := by
    rw [show n = j + (n - j) by omega, List.range_add]; simp
  rw [h, List.find?_append, List.find?_eq_none.2 (fun i hi => by rw [hno i (List.mem_range.1 hi)]; simp)]
  obtain ⟨m, hm⟩ : ∃ m, n - j = m + 1 := ⟨n - j - 1, by omega⟩
  rw [hm, List.range_succ_eq_map]
  simp [hy]
def costJ (n : Nat) (st : List Int) (ch : Rows2) (B : Pairs) (l : List Nat) (i : Nat) : Int := after1 st ch (lastO none l) i + pay n ch B (endO 0 l ||| 2 ^ i) i
def pk (n : Nat) (st : List Int) (ch : Rows2) (B : Pairs) (l : List Nat) (i : Nat) : Bool := fol B (endO 0 l) i && decide (costJ n st ch B l i = rest n st ch B (endO 0 l) (lastO none l))
theorem pick_here {n : Nat} {st : List Int} {ch : Rows2} {B : Pairs} {l : List Nat} {j : Nat} (hj : j < n) (hno : ∀ i, i < j → pk n st ch B l i = false) (hy : pk n st ch B l j = true) : pick n st ch B (endO 0 l) (lastO none l) = some j := find_range hj hno hy
theorem ok_step {n : Nat} {B : Pairs} {l : List Nat} {j : Nat} (h : okO n B 0 l = true) (hj : j < n) (hf : fol B (endO 0 l) j = true) : okO n B 0 (l ++ [j]) = true := by
  rw [okO_app, h, hf, decide_eq_true hj]; rfl
theorem ofN_get {l : List Nat} {k : Nat} : (l.map Int.ofNat).getD k 0 = ((l.getD k 0 : Nat) : Int) := by
  rw [List.getD_eq_getElem?_getD, List.getD_eq_getElem?_getD, List.getElem?_map]
  cases l[k]? <;> rfl
theorem ofN_snoc (l : List Nat) (j : Nat) : I (l.map Int.ofNat) ++ [.int .i64 (j : Int)] = I ((l ++ [j]).map Int.ofNat) := by simp [I]
theorem full_no {n : Nat} {B : Pairs} {l : List Nat} {k : Nat} (hl : l.length = k) (hk : k < n) (h : okO n B 0 l = true) : endO 0 l < 2 ^ n ∧ endO 0 l ≠ 2 ^ n - 1 := by
  have h1 := okO_pc l 0 (Nat.pow_pos (by decide)) h
  refine ⟨h1.2, fun e => ?_⟩
  have := (pc_full h1.2).2 e
  rw [pc_zero] at h1; omega
theorem last_lt {n : Nat} {B : Pairs} {l : List Nat} (h : okO n B 0 l = true) : ∀ i, lastO none l = some i → i < n := by
  intro i hi
  have key : ∀ (l : List Nat) (o : Option Nat), lastO o l = some i → (∀ j ∈ l, j < n) → (∀ j, o = some j → j < n) → i < n := by
    intro l
    induction l with
    | nil => intro o h _ ho; exact ho i h
    | cons x l ih => intro o h hl _; exact ih (some x) h (fun j hj => hl j (by simp [hj])) (fun j hj => by cases hj; exact hl x (by simp))
  exact key l none hi (okO_lt l 0 h) (fun j hj => by cases hj)
def Amin (n : Nat) (st : List Int) (ch : Rows2) (B : Pairs) (l : List Nat) (j : Nat) (b m : Int) : Prop :=
  m ≤ far2 ∧ (∀ i, i < j → fol B (endO 0 l) i = true → m ≤ costJ n st ch B l i) ∧ ((b = -1 ∧ m = far2) ∨ ∃ q : Nat, q < j ∧ b = (q : Int) ∧ fol B (endO 0 l) q = true ∧ costJ n st ch B l q = m ∧ ∀ i, i < q → fol B (endO 0 l) i = true → m < costJ n st ch B l i)
theorem Amin.skip {n : Nat} {st : List Int} {ch : Rows2} {B : Pairs} {l : List Nat} {j : Nat} {b m : Int} (h : Amin n st ch B l j b m) (hf : fol B (endO 0 l) j = true → m ≤ costJ n st ch B l j) : Amin n st ch B l (j + 1) b m := by
  obtain ⟨h1, h2, h3⟩ := h
  refine ⟨h1, fun i hi hfi => ?_, ?_⟩
  · by_cases e : i = j
    · subst e; exact hf hfi
    · exact h2 i (by omega) hfi
  · rcases h3 with h3 | ⟨q, q1, q2⟩
    · exact .inl h3
    · exact .inr ⟨q, by omega, q2⟩
theorem Amin.take {n : Nat} {st : List Int} {ch : Rows2} {B : Pairs} {l : List Nat} {j : Nat} {b m : Int} (h : Amin n st ch B l j b m) (hf : fol B (endO 0 l) j = true) (hc : costJ n st ch B l j < m) : Amin n st ch B l (j + 1) (j : Int) (costJ n st ch B l j) := by
  obtain ⟨h1, h2, h3⟩ := h
  refine ⟨by omega, fun i hi hfi => ?_, .inr ⟨j, by omega, rfl, hf, rfl, fun i hi hfi => ?_⟩⟩
  · by_cases e : i = j
    · subst e; exact Int.le_refl _
    · have := h2 i (by omega) hfi; omega
  · have := h2 i hi hfi; omega
theorem Amin.pick {n : Nat} {st : List Int} {ch : Rows2} {B : Pairs} {l : List Nat} {k : Nat} {b m : Int} (hP : PlanOk n st ch) (hp : possible B n = true) (hl : l.length = k) (hk : k < n) (hok : okO n B 0 l = true) (h : Amin n st ch B l n b m) :
    ∃ q : Nat, q < n ∧ b = (q : Int) ∧ fol B (endO 0 l) q = true ∧ pick n st ch B (endO 0 l) (lastO none l) = some q := by
  have hfar : far2 = 1099511627776 := rfl
  obtain ⟨hs, hne⟩ := full_no hl hk hok
  obtain ⟨j0, hp0, hj0, hf0, he0, hb0⟩ := pick_ex hP hp hs (last_lt hok) hne
  obtain ⟨h1, h2, h3⟩ := h
  have h4 := h2 j0 hj0 hf0
  unfold costJ at h4
  rcases h3 with ⟨_, h3⟩ | ⟨q, q1, q2, q3, q4, q5⟩
  · omega
  · have hle : rest n st ch B (endO 0 l) (lastO none l) ≤ costJ n st ch B l q := (bestJ_le (be := B) (f := fun j => after1 st ch (lastO none l) j + pay n ch B (endO 0 l ||| 2 ^ j) j) (s := endO 0 l) (List.range n) (2 * far2)).2 q (List.mem_range.2 q1) q3
    refine ⟨q, q1, q2, q3, pick_here q1 (fun i hi => ?_) (by rw [pk, q3, decide_eq_true (by omega)]; rfl)⟩
    cases hfi : fol B (endO 0 l) i with
    | false => rw [pk, hfi]; rfl
    | true => rw [pk, hfi, decide_eq_false (by have := q5 i hi hfi; omega)]; rfl

end Go.Proofs.YtgeahmmepfmcoaaDoor
