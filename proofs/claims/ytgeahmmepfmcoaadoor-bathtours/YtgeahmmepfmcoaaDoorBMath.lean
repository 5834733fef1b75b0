/- parts that the proof of BathTours uses -/
import Derived.Test.YtgeahmmepfmcoaaDoorTrim
namespace Go.Proofs.YtgeahmmepfmcoaaDoor
open Go Go.RowKit L
set_option linter.unusedVariables false
set_option linter.unusedSimpArgs false

theorem any_step {α : Type} [Inhabited α] {g : α → Bool} {xs : List α} {k : Int} (h0 : 0 ≤ k) (h : ∀ j : Nat, (j : Int) < k → g (xs.getD j default) = false) (hk : g (xs.getD k.toNat default) = false) : ∀ j : Nat, (j : Int) < k + 1 → g (xs.getD j default) = false := by
  intro j hj
  by_cases e : (j : Int) < k
  · exact h j e
  · have : j = k.toNat := by omega
    rw [this]; exact hk
theorem any_yes {α : Type} [Inhabited α] {g : α → Bool} {xs : List α} {k : Int} (h0 : 0 ≤ k) (h1 : k < xs.length) (hk : g (xs.getD k.toNat default) = true) : decide (0 ≤ k) = xs.any g := by
  have hlt : k.toNat < xs.length := by omega
  have : xs.any g = true := List.any_eq_true.2 ⟨xs.getD k.toNat default, by simp [hlt], hk⟩
  rw [this]; simp [h0]
theorem any_no {α : Type} [Inhabited α] {g : α → Bool} {xs : List α} {k : Int} (h0 : (xs.length : Int) ≤ k) (h : ∀ j : Nat, (j : Int) < k → g (xs.getD j default) = false) : decide ((0 : Int) ≤ -1) = xs.any g := by
  have : xs.any g = false := by
    refine List.any_eq_false.2 fun x hx => ?_
    obtain ⟨j, hj, rfl⟩ := List.mem_iff_getElem.1 hx
    have := h j (by omega)
    simpa [hj] using this
  rw [this]; rfl

def letters : List UInt8 := [97, 98, 99, 100, 101, 102, 103, 104]
def isWord (s : List UInt8) : Bool := decide (s.length ≤ 8) && s.all (letters.contains ·)
def validW (l : List (List UInt8)) : Bool := decide (1 ≤ l.length) && decide (l.length ≤ 4) && l.all isWord

theorem isWord_long {s : List UInt8} (h : 8 < s.length) : isWord s = false := by simp [isWord]; omega
theorem validW_no {l : List (List UInt8)} (h : l.length < 1 ∨ 4 < l.length) : validW l = false := by simp [validW]; omega
theorem validW_of {l : List (List UInt8)} (h : 1 ≤ l.length) (h2 : l.length ≤ 4) : validW l = !(l.any fun s => !isWord s) := by
  have : (l.any fun s => !isWord s) = !(l.all isWord) := by rw [List.all_eq_not_any_not]; simp
  rw [this]; simp [validW, h, h2]
def posN : List (List UInt8) → Nat
  | [] => 1
  | s :: r => (s.length + 1) * posN r

theorem posN_pos (ws : List (List UInt8)) : 0 < posN ws := by
  induction ws with
  | nil => decide
  | cons s r ih => exact Nat.mul_pos (by omega) ih
theorem posN_append (a b : List (List UInt8)) : posN (a ++ b) = posN a * posN b := by
  induction a with
  | nil => simp [posN]
  | cons s r ih => simp [posN, ih, Nat.mul_assoc]
theorem posN_take_succ {ws : List (List UInt8)} {i : Nat} (h : i < ws.length) : posN (ws.take (i + 1)) = posN (ws.take i) * ((ws.getD i []).length + 1) := by
  rw [List.take_succ_eq_append_getElem h, posN_append]; simp [posN, h]
theorem posN_bound : ∀ (ws : List (List UInt8)), (∀ s ∈ ws, s.length ≤ 8) → posN ws ≤ 9 ^ ws.length
  | [], _ => by simp [posN]
  | s :: r, h => by
    have h1 := h s (by simp)
    have h2 := posN_bound r (fun t ht => h t (by simp [ht]))
    simp only [posN, List.length_cons, Nat.pow_succ]
    calc (s.length + 1) * posN r ≤ 9 * 9 ^ r.length := Nat.mul_le_mul (by omega) h2
      _ = 9 ^ r.length * 9 := Nat.mul_comm _ _
theorem validW_len {ws : List (List UInt8)} (h : validW ws = true) : 1 ≤ ws.length ∧ ws.length ≤ 4 ∧ ∀ s ∈ ws, s.length ≤ 8 := by
  simp [validW, isWord] at h
  exact ⟨by omega, by omega, fun s hs => (h.2 s hs).1⟩
theorem posN_le {ws : List (List UInt8)} (h : validW ws = true) : posN ws ≤ 6561 := by
  obtain ⟨h1, h2, h3⟩ := validW_len h
  refine Nat.le_trans (posN_bound ws h3) ?_
  have : 9 ^ ws.length ≤ 9 ^ 4 := Nat.pow_le_pow_right (by decide) h2
  simpa using this
theorem posN_take_le {ws : List (List UInt8)} (h : validW ws = true) (i : Nat) : posN (ws.take i) ≤ 6561 := by
  have h1 := posN_le h
  have h2 : posN ws = posN (ws.take i) * posN (ws.drop i) := by rw [← posN_append, List.take_append_drop]
  have := posN_pos (ws.drop i)
  rw [h2] at h1
  exact Nat.le_trans (Nat.le_mul_of_pos_right _ this) h1

def adv (c : UInt8) : List (List UInt8) → Nat → Nat → Nat
  | [], _, _ => 0
  | s :: r, rest, step => (if s[rest % (s.length + 1)]? = some c then step else 0) + adv c r (rest / (s.length + 1)) (step * (s.length + 1))

theorem adv_le (c : UInt8) : ∀ (ws : List (List UInt8)) (rest step : Nat), adv c ws rest step + step ≤ step * posN ws
  | [], rest, step => by simp [adv, posN]
  | s :: r, rest, step => by
    have ih := adv_le c r (rest / (s.length + 1)) (step * (s.length + 1))
    simp only [adv, posN]
    rw [show step * ((s.length + 1) * posN r) = step * (s.length + 1) * posN r by rw [Nat.mul_assoc]]
    split
    · rename_i h
      have hl : rest % (s.length + 1) < s.length := (List.getElem?_eq_some_iff.1 h).1
      have : step * 2 ≤ step * (s.length + 1) := Nat.mul_le_mul_left _ (by omega)
      omega
    · have : step * 1 ≤ step * (s.length + 1) := Nat.mul_le_mul_left _ (by omega)
      omega
theorem adv_bound {ws : List (List UInt8)} (h : validW ws = true) (c : UInt8) (p : Nat) : adv c ws p 1 ≤ 6560 := by
  have h1 := adv_le c ws p 1
  have h2 := posN_le h
  omega
theorem adv_drop {ws : List (List UInt8)} {i : Nat} (h : i < ws.length) (c : UInt8) (rest step : Nat) :
    adv c (ws.drop i) rest step = (if (ws.getD i [])[rest % ((ws.getD i []).length + 1)]? = some c then step else 0) + adv c (ws.drop (i + 1)) (rest / ((ws.getD i []).length + 1)) (step * ((ws.getD i []).length + 1)) := by
  rw [List.drop_eq_getElem_cons h]
  simp [adv, h]

def far : Int := 1099511627776
def bestOf (ws : List (List UInt8)) (t : List Int) (p : Nat) (l : List UInt8) : Int :=
  l.foldl (fun m c => if 0 < adv c ws p 1 then min m (t.getD (p + adv c ws p 1) 0 + 1) else m) far
def tabD (ws : List (List UInt8)) : Nat → List Int
  | 0 => List.replicate (posN ws) 0
  | k + 1 => (tabD ws k).set (posN ws - 2 - k) (bestOf ws (tabD ws k) (posN ws - 2 - k) letters)
def tableOf (ws : List (List UInt8)) : List Int := tabD ws (posN ws - 1)
theorem tabD_length (ws : List (List UInt8)) (k : Nat) : (tabD ws k).length = posN ws := by
  induction k with
  | zero => simp [tabD]
  | succ k ih => simp [tabD, ih]

theorem adv_stays (c : UInt8) : ∀ (ws : List (List UInt8)) (rest step : Nat), rest < posN ws → adv c ws rest step + step * rest + step ≤ step * posN ws
  | [], rest, step, h => by
    have : rest = 0 := by simp [posN] at h; exact h
    subst this; simp [adv, posN]
  | s :: r, rest, step, h => by
    have hq : rest / (s.length + 1) < posN r := Nat.div_lt_of_lt_mul (by simpa [posN] using h)
    have ih := adv_stays c r (rest / (s.length + 1)) (step * (s.length + 1)) hq
    have hr : rest % (s.length + 1) < s.length + 1 := Nat.mod_lt _ (by omega)
    have hd := Nat.div_add_mod rest (s.length + 1)
    generalize rest / (s.length + 1) = q at *
    generalize hm : rest % (s.length + 1) = m at *
    simp only [adv, posN, hm]
    subst hd
    have e1 : step * ((s.length + 1) * q + m) = step * (s.length + 1) * q + step * m := by rw [Nat.mul_add, Nat.mul_assoc]
    have e2 : step * ((s.length + 1) * posN r) = step * (s.length + 1) * posN r := by rw [Nat.mul_assoc]
    have e3 : ((s.length + 1) * q + m) / (s.length + 1) = q := by
      rw [Nat.mul_add_div (by omega), Nat.div_eq_of_lt hr, Nat.add_zero]
    rw [e1, e2, e3]
    split
    · rename_i hh
      have hl : m < s.length := (List.getElem?_eq_some_iff.1 hh).1
      have : step * (m + 2) ≤ step * (s.length + 1) := Nat.mul_le_mul_left _ (by omega)
      rw [Nat.mul_add] at this
      omega
    · have : step * (m + 1) ≤ step * (s.length + 1) := Nat.mul_le_mul_left _ (by omega)
      rw [Nat.mul_add] at this
      omega
theorem adv_lt {ws : List (List UInt8)} {p : Nat} (h : p < posN ws) (c : UInt8) : p + adv c ws p 1 < posN ws := by
  have := adv_stays c ws p 1 h
  omega

theorem best_snoc {ws : List (List UInt8)} {t : List Int} {p j : Nat} {l : List UInt8} (h : j < l.length) : bestOf ws t p (l.take (j + 1)) =
    if 0 < adv (l.getD j 0) ws p 1 then min (bestOf ws t p (l.take j)) (t.getD (p + adv (l.getD j 0) ws p 1) 0 + 1) else bestOf ws t p (l.take j) := by
  rw [List.take_succ_eq_append_getElem h]
  have : l[j] = l.getD j 0 := by simp [h]
  rw [this]
  simp only [bestOf, List.foldl_append, List.foldl_cons, List.foldl_nil]

theorem best_bd {ws : List (List UInt8)} {t : List Int} (ht : ∀ i, 0 ≤ t.getD i 0) (p : Nat) : ∀ (l : List UInt8), 0 ≤ bestOf ws t p l ∧ bestOf ws t p l ≤ far := by
  have key : ∀ (l : List UInt8) (m : Int), 0 ≤ m → m ≤ far → 0 ≤ l.foldl (fun m c => if 0 < adv c ws p 1 then min m (t.getD (p + adv c ws p 1) 0 + 1) else m) m ∧ l.foldl (fun m c => if 0 < adv c ws p 1 then min m (t.getD (p + adv c ws p 1) 0 + 1) else m) m ≤ far := by
    intro l
    induction l with
    | nil => intro m h1 h2; exact ⟨h1, h2⟩
    | cons c l ih =>
      intro m h1 h2
      rw [List.foldl_cons]
      split
      · have := ht (p + adv c ws p 1)
        exact ih _ (by omega) (by omega)
      · exact ih _ h1 h2
  intro l
  exact key l far (by decide) (Int.le_refl _)

theorem getD_set (t : List Int) (p i : Nat) (v : Int) : (t.set p v).getD i 0 = if i = p ∧ p < t.length then v else t.getD i 0 := by
  simp only [List.getD_eq_getElem?_getD, List.getElem?_set]
  by_cases h : p = i
  · subst h
    by_cases h2 : p < t.length <;> simp [h2]
  · rw [if_neg h, if_neg (fun e => h e.1.symm)]

theorem tabD_bd (ws : List (List UInt8)) : ∀ (k i : Nat), 0 ≤ (tabD ws k).getD i 0 ∧ (tabD ws k).getD i 0 ≤ far
  | 0, i => by
    have : (List.replicate (posN ws) (0 : Int)).getD i 0 = 0 := by rw [List.getD_eq_getElem?_getD, List.getElem?_replicate]; split <;> rfl
    simp only [tabD, this]
    exact ⟨Int.le_refl _, by decide⟩
  | k + 1, i => by
    have ih := tabD_bd ws k
    have hb := best_bd (ws := ws) (t := tabD ws k) (fun i => (ih i).1) (posN ws - 2 - k) letters
    simp only [tabD, getD_set]
    split
    · exact hb
    · exact ih i

theorem tabD_step {ws : List (List UInt8)} {p : Nat} (h : p + 2 ≤ posN ws) : tabD ws (posN ws - 1 - p) = (tabD ws (posN ws - 1 - (p + 1))).set p (bestOf ws (tabD ws (posN ws - 1 - (p + 1))) p letters) := by
  have e : posN ws - 1 - p = (posN ws - 1 - (p + 1)) + 1 := by omega
  have e2 : posN ws - 2 - (posN ws - 1 - (p + 1)) = p := by omega
  rw [e, tabD, e2]

end Go.Proofs.YtgeahmmepfmcoaaDoor
