/- Strings that cover all words: the run over positions, and why no covering string is shorter than the table tells. No Go in sight. -/
import Derived.Test.YtgeahmmepfmcoaaDoorBMath2
namespace Go.Proofs.YtgeahmmepfmcoaaDoor
open Go Go.RowKit L
set_option linter.unusedVariables false
set_option linter.unusedSimpArgs false

def runP (ws : List (List UInt8)) (p : Nat) (s : List UInt8) : Nat := s.foldl (fun p c => p + adv c ws p 1) p
theorem runP_nil (ws : List (List UInt8)) (p : Nat) : runP ws p [] = p := rfl
theorem runP_cons (ws : List (List UInt8)) (p : Nat) (c : UInt8) (s : List UInt8) : runP ws p (c :: s) = runP ws (p + adv c ws p 1) s := rfl
theorem runP_lt {ws : List (List UInt8)} : ∀ (s : List UInt8) (p : Nat), p < posN ws → runP ws p s < posN ws
  | [], p, h => h
  | c :: s, p, h => runP_lt s _ (adv_lt h c)
theorem runP_snoc {ws : List (List UInt8)} {p j : Nat} {s : List UInt8} (h : j < s.length) : runP ws p (s.take (j + 1)) = runP ws p (s.take j) + adv (s.getD j 0) ws (runP ws p (s.take j)) 1 := by
  rw [List.take_succ_eq_append_getElem h]
  have : s[j] = s.getD j 0 := by simp [h]
  rw [this]
  simp only [runP, List.foldl_append, List.foldl_cons, List.foldl_nil]
def covers (s : List UInt8) (ws : List (List UInt8)) : Bool := decide (runP ws 0 s = posN ws - 1)

/-- a table that is sound: its last element is at most 0, and none is greater by more than one than what a letter leads to -/
structure Sound (ws : List (List UInt8)) (t : List Int) : Prop where
  last : t.getD (posN ws - 1) 0 ≤ 0
  step : ∀ p, p < posN ws → ∀ c ∈ letters, 0 < adv c ws p 1 → t.getD p 0 ≤ t.getD (p + adv c ws p 1) 0 + 1
theorem adv_only {ws : List (List UInt8)} (hv : validW ws = true) {c : UInt8} {p : Nat} (h : 0 < adv c ws p 1) : c ∈ letters := by
  have key : ∀ (ws : List (List UInt8)) (rest step : Nat), (∀ s ∈ ws, ∀ c ∈ s, c ∈ letters) → 0 < adv c ws rest step → c ∈ letters := by
    clear h
    intro ws
    induction ws with
    | nil => intro rest step _ h; simp [adv] at h
    | cons s r ih =>
      intro rest step hl h
      simp only [adv] at h
      by_cases h1 : s[rest % (s.length + 1)]? = some c
      · obtain ⟨h2, h3⟩ := List.getElem?_eq_some_iff.1 h1
        exact hl s (by simp) c (by rw [← h3]; exact List.getElem_mem h2)
      · rw [if_neg h1, Nat.zero_add] at h
        exact ih _ _ (fun t ht => hl t (by simp [ht])) h
  exact key ws p 1 (validW_letters hv) h
theorem sound_run {ws : List (List UInt8)} (hv : validW ws = true) {t : List Int} (h : Sound ws t) : ∀ (s : List UInt8) (p : Nat), p < posN ws → t.getD p 0 ≤ s.length + t.getD (runP ws p s) 0
  | [], p, _ => by simp [runP_nil]
  | c :: s, p, hp => by
    have ih := sound_run hv h s (p + adv c ws p 1) (adv_lt hp c)
    rw [runP_cons]
    rw [List.length_cons]
    by_cases h0 : 0 < adv c ws p 1
    · have := h.step p hp c (adv_only hv h0) h0
      omega
    · have e : adv c ws p 1 = 0 := by omega
      rw [e] at ih ⊢
      simp only [Nat.add_zero] at ih ⊢
      omega
theorem sound_bound {ws : List (List UInt8)} (hv : validW ws = true) {t : List Int} (h : Sound ws t) {s : List UInt8} (hs : covers s ws = true) : t.getD 0 0 ≤ s.length := by
  have h1 := sound_run hv h s 0 (posN_pos ws)
  have h2 : runP ws 0 s = posN ws - 1 := of_decide_eq_true hs
  rw [h2] at h1
  have := h.last
  omega
theorem tab_sound (ws : List (List UInt8)) : Sound ws (tableOf ws) := by
  refine ⟨by rw [tab_last]; exact Int.le_refl _, fun p hp c hc h0 => ?_⟩
  have := adv_lt hp c
  rw [tab_at (by omega)]
  exact best_le h0 letters hc

/-! the path -/
theorem nxt_spec {ws : List (List UInt8)} (hv : validW ws = true) {p : Nat} (hp : p + 1 < posN ws) : ∃ c, nxt ws p = some c ∧ goes ws p c = true := by
  cases h : nxt ws p with
  | none =>
    obtain ⟨c, hc, hg⟩ := goes_ex hv hp
    have := List.find?_eq_none.1 h c hc
    exact (this hg).elim
  | some c => exact ⟨c, rfl, List.find?_some h⟩
theorem goes_iff {ws : List (List UInt8)} {p : Nat} {c : UInt8} : goes ws p c = true ↔ 0 < adv c ws p 1 ∧ (tableOf ws).getD (p + adv c ws p 1) 0 = (tableOf ws).getD p 0 - 1 := by
  simp only [goes, Bool.and_eq_true, decide_eq_true_eq]
theorem path_run {ws : List (List UInt8)} (hv : validW ws = true) : ∀ (f p : Nat), p < posN ws → posN ws ≤ f + p → runP ws p (path ws f p) = posN ws - 1 ∧ ((path ws f p).length : Int) = (tableOf ws).getD p 0 ∧ ∀ c ∈ path ws f p, c ∈ letters
  | 0, p, hp, hf => by omega
  | f + 1, p, hp, hf => by
    by_cases h1 : p + 1 < posN ws
    · obtain ⟨c, hn, hg⟩ := nxt_spec hv h1
      obtain ⟨h0, h2⟩ := goes_iff.1 hg
      obtain ⟨i1, i2, i3⟩ := path_run hv f (p + adv c ws p 1) (adv_lt hp c) (by omega)
      rw [path, if_pos h1, hn]
      refine ⟨by rw [runP_cons]; exact i1, ?_, fun d hd => ?_⟩
      · show (((path ws f (p + adv c ws p 1)).length + 1 : Nat) : Int) = _
        omega
      · rcases List.mem_cons.1 hd with rfl | hd
        · exact adv_only hv h0
        · exact i3 d hd
    · rw [path, if_neg h1]
      have e : p = posN ws - 1 := by omega
      exact ⟨e, by rw [e, tab_last]; rfl, by simp⟩
theorem short_covers {ws : List (List UInt8)} (hv : validW ws = true) : covers (shortS ws) ws = true :=
  decide_eq_true (path_run hv (posN ws) 0 (posN_pos ws) (by omega)).1
theorem short_len {ws : List (List UInt8)} (hv : validW ws = true) : ((shortS ws).length : Int) = (tableOf ws).getD 0 0 := (path_run hv (posN ws) 0 (posN_pos ws) (by omega)).2.1
theorem short_letters {ws : List (List UInt8)} (hv : validW ws = true) : ∀ c ∈ shortS ws, c ∈ letters := (path_run hv (posN ws) 0 (posN_pos ws) (by omega)).2.2
theorem short_least {ws : List (List UInt8)} (hv : validW ws = true) {s : List UInt8} (hs : covers s ws = true) : (shortS ws).length ≤ s.length := by
  have h1 := sound_bound hv (tab_sound ws) hs
  have h2 := short_len hv
  omega

/-! no table element is greater than what is left of the words -/
def remP : List (List UInt8) → Nat → Nat
  | [], _ => 0
  | s :: r, p => (s.length - p % (s.length + 1)) + remP r (p / (s.length + 1))
theorem adv_scale (c : UInt8) (k : Nat) : ∀ (ws : List (List UInt8)) (rest step : Nat), adv c ws rest (k * step) = k * adv c ws rest step
  | [], rest, step => by simp [adv]
  | s :: r, rest, step => by
    simp only [adv]
    rw [Nat.mul_assoc, adv_scale c k r]
    split
    · exact (Nat.mul_add _ _ _).symm
    · simp
theorem adv_head (c : UInt8) (s : List UInt8) (r : List (List UInt8)) (p : Nat) : adv c (s :: r) p 1 = (if s[p % (s.length + 1)]? = some c then 1 else 0) + (s.length + 1) * adv c r (p / (s.length + 1)) 1 := by
  simp only [adv, Nat.one_mul]
  rw [show s.length + 1 = (s.length + 1) * 1 by omega, adv_scale, Nat.mul_one]
theorem adv_digits (c : UInt8) (s : List UInt8) (r : List (List UInt8)) (p : Nat) :
    (p + adv c (s :: r) p 1) % (s.length + 1) = p % (s.length + 1) + (if s[p % (s.length + 1)]? = some c then 1 else 0) ∧
    (p + adv c (s :: r) p 1) / (s.length + 1) = p / (s.length + 1) + adv c r (p / (s.length + 1)) 1 := by
  rw [adv_head]
  have hd := Nat.div_add_mod p (s.length + 1)
  have hm : p % (s.length + 1) < s.length + 1 := Nat.mod_lt _ (by omega)
  have hh : p % (s.length + 1) + (if s[p % (s.length + 1)]? = some c then 1 else 0) < s.length + 1 := by
    split
    · rename_i h
      have := (List.getElem?_eq_some_iff.1 h).1
      omega
    · omega
  generalize p / (s.length + 1) = q at *
  generalize (if s[p % (s.length + 1)]? = some c then 1 else 0) = e at *
  generalize p % (s.length + 1) = m at *
  generalize adv c r q 1 = a at *
  have : p + (e + (s.length + 1) * a) = (s.length + 1) * (q + a) + (m + e) := by rw [Nat.mul_add]; omega
  rw [this]
  refine ⟨?_, ?_⟩
  · rw [Nat.mul_add_mod, Nat.mod_eq_of_lt hh]
  · rw [Nat.mul_add_div (by omega), Nat.div_eq_of_lt hh, Nat.add_zero]
theorem rem_adv (c : UInt8) : ∀ (ws : List (List UInt8)) (p : Nat), remP ws (p + adv c ws p 1) + (if 0 < adv c ws p 1 then 1 else 0) ≤ remP ws p
  | [], p => by simp [adv, remP]
  | s :: r, p => by
    obtain ⟨h1, h2⟩ := adv_digits c s r p
    have ih := rem_adv c r (p / (s.length + 1))
    have hh := adv_head c s r p
    simp only [remP]
    rw [h1, h2]
    by_cases e : s[p % (s.length + 1)]? = some c
    · have := (List.getElem?_eq_some_iff.1 e).1
      rw [if_pos e] at hh ⊢
      have : remP r (p / (s.length + 1) + adv c r (p / (s.length + 1)) 1) ≤ remP r (p / (s.length + 1)) := by omega
      split <;> omega
    · rw [if_neg e] at hh ⊢
      by_cases h0 : 0 < adv c r (p / (s.length + 1)) 1
      · rw [if_pos h0] at ih
        split <;> omega
      · have e0 : adv c r (p / (s.length + 1)) 1 = 0 := by omega
        rw [e0, Nat.mul_zero] at hh
        rw [if_neg (by omega)]
        rw [if_neg h0] at ih
        omega
theorem tab_rem {ws : List (List UInt8)} (hv : validW ws = true) : ∀ (k p : Nat), p + k + 1 = posN ws → (tableOf ws).getD p 0 ≤ remP ws p := by
  intro k
  induction k using Nat.strongRecOn with
  | _ k ih =>
    intro p hp
    by_cases h0 : k = 0
    · have e : p = posN ws - 1 := by omega
      rw [e, tab_last]; omega
    · obtain ⟨c, hc, hpos⟩ := adv_ex hv (p := p) (by omega)
      rw [tab_at (by omega)]
      have h1 := best_le (t := tableOf ws) hpos letters hc
      have h2 := adv_lt (show p < posN ws by omega) c
      have h3 := ih (k - adv c ws p 1) (by omega) (p + adv c ws p 1) (by omega)
      have h4 := rem_adv c ws p
      rw [if_pos hpos] at h4
      omega
theorem rem_le : ∀ (ws : List (List UInt8)) (p : Nat), (∀ s ∈ ws, s.length ≤ 8) → remP ws p ≤ 8 * ws.length
  | [], p, _ => by simp [remP]
  | s :: r, p, h => by
    have := rem_le r (p / (s.length + 1)) (fun t ht => h t (by simp [ht]))
    have := h s (by simp)
    simp only [remP, List.length_cons]
    omega
theorem short_le {ws : List (List UInt8)} (hv : validW ws = true) : (shortS ws).length ≤ 32 := by
  have h1 := short_len hv
  have h2 := tab_rem hv (posN ws - 1) 0 (by have := posN_pos ws; omega)
  obtain ⟨h3, h4, h5⟩ := validW_len hv
  have h6 := rem_le ws 0 h5
  omega

end Go.Proofs.YtgeahmmepfmcoaaDoor
