/- parts that the proof of BathTours uses -/
import Derived.Test.YtgeahmmepfmcoaaDoorRefTable
namespace Go.Proofs.YtgeahmmepfmcoaaDoor
open Go Go.RowKit L
set_option linter.unusedVariables false
set_option linter.unusedSimpArgs false

theorem adv_none : ∀ (ws : List (List UInt8)) (rest step : Nat), 0 < step → rest < posN ws → (∀ s ∈ ws, ∀ c ∈ s, c ∈ letters) → (∀ c ∈ letters, adv c ws rest step = 0) → rest + 1 = posN ws
  | [], rest, step, _, h, _, _ => by simp [posN] at h ⊢; exact h
  | s :: r, rest, step, hs, h, hl, h0 => by
    have hm : rest % (s.length + 1) < s.length + 1 := Nat.mod_lt _ (by omega)
    have hd := Nat.div_add_mod rest (s.length + 1)
    have hq : rest / (s.length + 1) < posN r := Nat.div_lt_of_lt_mul (by simpa [posN] using h)
    have he : rest % (s.length + 1) = s.length := by
      by_cases hlt : rest % (s.length + 1) < s.length
      · have hc := h0 (s[rest % (s.length + 1)]) (hl s (by simp) _ (List.getElem_mem hlt))
        simp only [adv, List.getElem?_eq_getElem hlt, if_true] at hc
        omega
      · omega
    have ih := adv_none r (rest / (s.length + 1)) (step * (s.length + 1)) (Nat.mul_pos hs (by omega)) hq (fun t ht => hl t (by simp [ht])) (by
      intro c hc
      have := h0 c hc
      simp only [adv] at this
      omega)
    rw [he] at hd
    simp only [posN]
    rw [← ih, Nat.mul_add]
    omega

theorem validW_letters {ws : List (List UInt8)} (h : validW ws = true) : ∀ s ∈ ws, ∀ c ∈ s, c ∈ letters := by
  simp [validW, isWord] at h
  intro s hs c hc
  exact (h.2 s hs).2 c hc

theorem adv_ex {ws : List (List UInt8)} (h : validW ws = true) {p : Nat} (hp : p + 1 < posN ws) : ∃ c ∈ letters, 0 < adv c ws p 1 := by
  refine Classical.byContradiction fun hn => ?_
  have := adv_none ws p 1 (by omega) (by omega) (validW_letters h) (fun c hc => by
    by_cases e : adv c ws p 1 = 0
    · exact e
    · exact (hn ⟨c, hc, by omega⟩).elim)
  omega

theorem tabD_keep (ws : List (List UInt8)) (i : Nat) : ∀ (m k : Nat), posN ws ≤ i + 1 + k → k + m + 1 ≤ posN ws → (tabD ws (k + m)).getD i 0 = (tabD ws k).getD i 0
  | 0, k, _, _ => rfl
  | m + 1, k, h, h2 => by
    have ih := tabD_keep ws i m k h (by omega)
    rw [← ih, ← Nat.add_assoc]
    simp only [tabD, getD_set]
    rw [if_neg (by omega)]
theorem tab_of (ws : List (List UInt8)) {i k : Nat} (h : posN ws ≤ i + 1 + k) (h2 : k + 1 ≤ posN ws) : (tableOf ws).getD i 0 = (tabD ws k).getD i 0 := by
  have := tabD_keep ws i (posN ws - 1 - k) k h (by omega)
  rw [← this, tableOf]
  congr 2; omega

theorem best_congr {ws : List (List UInt8)} {t t' : List Int} {p : Nat} (h : ∀ q, p < q → t.getD q 0 = t'.getD q 0) (l : List UInt8) : bestOf ws t p l = bestOf ws t' p l := by
  have key : ∀ (l : List UInt8) (m : Int), l.foldl (fun m c => if 0 < adv c ws p 1 then min m (t.getD (p + adv c ws p 1) 0 + 1) else m) m = l.foldl (fun m c => if 0 < adv c ws p 1 then min m (t'.getD (p + adv c ws p 1) 0 + 1) else m) m := by
    intro l
    induction l with
    | nil => intro m; rfl
    | cons c l ih =>
      intro m
      rw [List.foldl_cons, List.foldl_cons]
      by_cases h0 : 0 < adv c ws p 1
      · rw [if_pos h0, if_pos h0, h _ (by omega)]; exact ih _
      · rw [if_neg h0, if_neg h0]; exact ih _
  exact key l far
theorem tab_at {ws : List (List UInt8)} {p : Nat} (hp : p + 1 < posN ws) : (tableOf ws).getD p 0 = bestOf ws (tableOf ws) p letters := by
  rw [tab_of ws (k := posN ws - 1 - p) (by omega) (by omega), tabD_step (by omega), getD_set, if_pos ⟨rfl, by rw [tabD_length]; omega⟩]
  exact best_congr (fun q hq => (tab_of ws (by omega) (by omega)).symm) letters
theorem tab_last (ws : List (List UInt8)) : (tableOf ws).getD (posN ws - 1) 0 = 0 := by
  have := posN_pos ws
  rw [tab_of ws (k := 0) (by omega) (by omega), tabD, List.getD_eq_getElem?_getD, List.getElem?_replicate]
  split <;> rfl
theorem tab_bd (ws : List (List UInt8)) (i : Nat) : 0 ≤ (tableOf ws).getD i 0 ∧ (tableOf ws).getD i 0 ≤ far := tabD_bd ws _ i

theorem best_le {ws : List (List UInt8)} {t : List Int} {p : Nat} {c : UInt8} (hc : 0 < adv c ws p 1) : ∀ (l : List UInt8), c ∈ l → bestOf ws t p l ≤ t.getD (p + adv c ws p 1) 0 + 1 := by
  have mono : ∀ (l : List UInt8) (m : Int), l.foldl (fun m c => if 0 < adv c ws p 1 then min m (t.getD (p + adv c ws p 1) 0 + 1) else m) m ≤ m := by
    intro l
    induction l with
    | nil => intro m; exact Int.le_refl _
    | cons c l ih =>
      intro m
      rw [List.foldl_cons]
      by_cases h0 : 0 < adv c ws p 1
      · rw [if_pos h0]; exact Int.le_trans (ih _) (by omega)
      · rw [if_neg h0]; exact ih _
  have key : ∀ (l : List UInt8) (m : Int), c ∈ l → l.foldl (fun m c => if 0 < adv c ws p 1 then min m (t.getD (p + adv c ws p 1) 0 + 1) else m) m ≤ t.getD (p + adv c ws p 1) 0 + 1 := by
    intro l
    induction l with
    | nil => intro m h; cases h
    | cons d l ih =>
      intro m h
      rw [List.foldl_cons]
      rcases List.mem_cons.1 h with rfl | h
      · rw [if_pos hc]; exact Int.le_trans (mono _ _) (by omega)
      · exact ih _ h
  intro l h
  exact key l far h
theorem best_ex {ws : List (List UInt8)} {t : List Int} {p : Nat} : ∀ (l : List UInt8), bestOf ws t p l = far ∨ ∃ c ∈ l, 0 < adv c ws p 1 ∧ bestOf ws t p l = t.getD (p + adv c ws p 1) 0 + 1 := by
  have key : ∀ (l : List UInt8) (m : Int), l.foldl (fun m c => if 0 < adv c ws p 1 then min m (t.getD (p + adv c ws p 1) 0 + 1) else m) m = m ∨ ∃ c ∈ l, 0 < adv c ws p 1 ∧ l.foldl (fun m c => if 0 < adv c ws p 1 then min m (t.getD (p + adv c ws p 1) 0 + 1) else m) m = t.getD (p + adv c ws p 1) 0 + 1 := by
    intro l
    induction l with
    | nil => intro m; exact .inl rfl
    | cons d l ih =>
      intro m
      rw [List.foldl_cons]
      rcases ih (if 0 < adv d ws p 1 then min m (t.getD (p + adv d ws p 1) 0 + 1) else m) with h | ⟨c, hc, h0, h⟩
      · by_cases hd : 0 < adv d ws p 1
        · rw [if_pos hd] at h ⊢
          by_cases hm : m ≤ t.getD (p + adv d ws p 1) 0 + 1
          · exact .inl (by rw [h]; omega)
          · exact .inr ⟨d, by simp, hd, by rw [h]; omega⟩
        · rw [if_neg hd] at h ⊢; exact .inl h
      · exact .inr ⟨c, List.mem_cons_of_mem _ hc, h0, h⟩
  intro l
  exact key l far

theorem tab_le {ws : List (List UInt8)} (hv : validW ws = true) : ∀ (k p : Nat), p + k + 1 = posN ws → (tableOf ws).getD p 0 ≤ k := by
  intro k
  induction k using Nat.strongRecOn with
  | _ k ih =>
    intro p hp
    by_cases h0 : k = 0
    · have e : p = posN ws - 1 := by omega
      rw [e, tab_last]; omega
    · obtain ⟨c, hc, hpos⟩ := adv_ex hv (p := p) (by omega)
      rw [tab_at (by omega)]
      have h1 := best_le (t := tableOf ws) hpos letters hc
      have h2 := adv_lt (show p < posN ws by omega) c
      have h3 := ih (k - adv c ws p 1) (by omega) (p + adv c ws p 1) (by omega)
      omega

def goes (ws : List (List UInt8)) (p : Nat) (c : UInt8) : Bool := decide (0 < adv c ws p 1) && decide ((tableOf ws).getD (p + adv c ws p 1) 0 = (tableOf ws).getD p 0 - 1)
def nxt (ws : List (List UInt8)) (p : Nat) : Option UInt8 := letters.find? (goes ws p)
def path (ws : List (List UInt8)) : Nat → Nat → List UInt8
  | 0, _ => []
  | f + 1, p => if p + 1 < posN ws then (match nxt ws p with | some c => c :: path ws f (p + adv c ws p 1) | none => []) else []
def shortS (ws : List (List UInt8)) : List UInt8 := path ws (posN ws) 0
theorem goes_ex {ws : List (List UInt8)} (hv : validW ws = true) {p : Nat} (hp : p + 1 < posN ws) : ∃ c ∈ letters, goes ws p c = true := by
  have h1 := tab_at hp
  have h2 := tab_le hv (posN ws - 1 - p) p (by omega)
  have h3 := posN_le hv
  rcases best_ex (ws := ws) (t := tableOf ws) (p := p) letters with h | ⟨c, hc, h0, h⟩
  · rw [h1, h] at h2
    have : far = 1099511627776 := rfl
    omega
  · refine ⟨c, hc, ?_⟩
    rw [goes, decide_eq_true h0, decide_eq_true (by rw [h1, h]; omega)]; rfl
theorem find_here {l : List UInt8} {g : UInt8 → Bool} : ∀ {j : Nat}, j < l.length → (∀ i, i < j → g (l.getD i 0) = false) → g (l.getD j 0) = true → l.find? g = some (l.getD j 0) := by
  induction l with
  | nil => intro j h; simp at h
  | cons a l ih =>
    intro j h h1 h2
    cases j with
    | zero => simp at h2; simp [h2]
    | succ j =>
      have h3 := h1 0 (by omega)
      simp at h3
      simp only [List.find?_cons, h3]
      simp at h
      have := ih (j := j) h (fun i hi => by have := h1 (i + 1) (by omega); simpa using this) (by simpa using h2)
      simpa using this

end Go.Proofs.YtgeahmmepfmcoaaDoor
