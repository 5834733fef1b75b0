/- Strings that cover words, word by word; the first shortest string; two words: longest common subsequences. No Go in sight. -/
import Derived.Test.YtgeahmmepfmcoaaDoorBMath3
namespace Go.Proofs.YtgeahmmepfmcoaaDoor
open Go Go.RowKit L
set_option linter.unusedVariables false
set_option linter.unusedSimpArgs false

/-! word by word -/
/-- how far a string leads in one word -/
def gr : List UInt8 → Nat → List UInt8 → Nat
  | [], m, _ => m
  | c :: s, m, w => gr s (if w[m]? = some c then m + 1 else m) w
theorem gr_le {w : List UInt8} : ∀ (s : List UInt8) (m : Nat), m ≤ w.length → gr s m w ≤ w.length
  | [], m, h => h
  | c :: s, m, h => by
    simp only [gr]
    split
    · rename_i e
      have := (List.getElem?_eq_some_iff.1 e).1
      exact gr_le s _ (by omega)
    · exact gr_le s _ h
theorem run_digits (w : List UInt8) (r : List (List UInt8)) : ∀ (s : List UInt8) (p : Nat), runP (w :: r) p s % (w.length + 1) = gr s (p % (w.length + 1)) w ∧ runP (w :: r) p s / (w.length + 1) = runP r (p / (w.length + 1)) s
  | [], p => ⟨rfl, rfl⟩
  | c :: s, p => by
    obtain ⟨h1, h2⟩ := adv_digits c w r p
    obtain ⟨i1, i2⟩ := run_digits w r s (p + adv c (w :: r) p 1)
    rw [runP_cons, i1, i2, h1, h2]
    refine ⟨?_, ?_⟩
    · simp only [gr]; congr 1; split <;> rfl
    · rw [← runP_cons]
theorem last_digits (w : List UInt8) (r : List (List UInt8)) (x : Nat) : x = posN (w :: r) - 1 ↔ x % (w.length + 1) = w.length ∧ x / (w.length + 1) = posN r - 1 := by
  have h1 := posN_pos r
  have e : posN (w :: r) = (w.length + 1) * posN r := rfl
  have e2 : (w.length + 1) * posN r = (w.length + 1) * (posN r - 1) + (w.length + 1) := by
    rw [← Nat.mul_succ]; congr 1; omega
  constructor
  · rintro rfl
    have : posN (w :: r) - 1 = (w.length + 1) * (posN r - 1) + w.length := by omega
    rw [this]
    refine ⟨?_, ?_⟩
    · rw [Nat.mul_add_mod, Nat.mod_eq_of_lt (by omega)]
    · rw [Nat.mul_add_div (by omega), Nat.div_eq_of_lt (by omega), Nat.add_zero]
  · rintro ⟨h2, h3⟩
    have := Nat.div_add_mod x (w.length + 1)
    rw [h2, h3] at this
    omega
theorem runP_all : ∀ (ws : List (List UInt8)) (s : List UInt8), (runP ws 0 s = posN ws - 1) ↔ ∀ w ∈ ws, gr s 0 w = w.length
  | [], s => by
    have : ∀ (s : List UInt8) (p : Nat), runP [] p s = p := by
      intro s
      induction s with
      | nil => intro p; rfl
      | cons c s ih => intro p; rw [runP_cons, ih]; simp [adv]
    simp [this, posN]
  | w :: r, s => by
    obtain ⟨h1, h2⟩ := run_digits w r s 0
    rw [last_digits, h1, h2, Nat.zero_mod, Nat.zero_div, runP_all r s]
    simp
theorem covers_iff {ws : List (List UInt8)} {s : List UInt8} : covers s ws = true ↔ ∀ w ∈ ws, gr s 0 w = w.length := by
  rw [covers, decide_eq_true_eq, runP_all]
theorem covers_sub {ws ws' : List (List UInt8)} {s : List UInt8} (h : ∀ w ∈ ws', w ∈ ws) (hc : covers s ws = true) : covers s ws' = true :=
  covers_iff.2 fun w hw => covers_iff.1 hc w (h w hw)
/-- what is left of a word, letter by letter -/
def restW (s w : List UInt8) : List UInt8 := s.foldl (fun w c => if w.head? = some c then w.tail else w) w
theorem restW_drop {w : List UInt8} : ∀ (s : List UInt8) (m : Nat), restW s (w.drop m) = w.drop (gr s m w)
  | [], m => rfl
  | c :: s, m => by
    have e : (w.drop m).head? = w[m]? := by rw [List.head?_drop]
    show restW s (if (w.drop m).head? = some c then (w.drop m).tail else w.drop m) = _
    simp only [gr]
    rw [e]
    split
    · rw [List.tail_drop]; exact restW_drop s _
    · exact restW_drop s _
theorem covers_rest {ws : List (List UInt8)} {s : List UInt8} : covers s ws = ws.all fun w => decide (restW s w = []) := by
  have key : ∀ w : List UInt8, (restW s w = []) ↔ gr s 0 w = w.length := by
    intro w
    have h := restW_drop (w := w) s 0
    simp only [List.drop_zero] at h
    have := gr_le (w := w) s 0 (Nat.zero_le _)
    rw [h, List.drop_eq_nil_iff]; omega
  rw [Bool.eq_iff_iff, covers_iff, List.all_eq_true]
  simp [key]

/-! the first one of the shortest strings -/
theorem letters_sorted : letters.Pairwise (· < ·) := by decide
theorem bl_refl (s : List UInt8) : Op.bytesLess s s = false := by
  induction s with
  | nil => rfl
  | cons a s ih => simp [Op.bytesLess, ih]
theorem path_first {ws : List (List UInt8)} (hv : validW ws = true) : ∀ (f p : Nat) (s : List UInt8), p < posN ws → posN ws ≤ f + p → runP ws p s = posN ws - 1 → (s.length : Int) = (tableOf ws).getD p 0 → (Op.bytesLess (path ws f p) s || decide (path ws f p = s)) = true
  | 0, p, s, hp, hf, _, _ => by omega
  | f + 1, p, s, hp, hf, hr, hl => by
    by_cases h1 : p + 1 < posN ws
    · obtain ⟨c0, hn, hg⟩ := nxt_spec hv h1
      obtain ⟨h0, h2⟩ := goes_iff.1 hg
      have hb := tab_bd ws (p + adv c0 ws p 1)
      cases s with
      | nil => rw [List.length_nil] at hl; omega
      | cons c s =>
        rw [runP_cons] at hr
        have hlt := adv_lt hp c
        have hsr := sound_run hv (tab_sound ws) s _ hlt
        rw [hr, tab_last] at hsr
        rw [List.length_cons] at hl
        have hpos : 0 < adv c ws p 1 := by
          by_cases e : adv c ws p 1 = 0
          · rw [e, Nat.add_zero] at hsr; omega
          · omega
        have hc := adv_only hv hpos
        have hst := (tab_sound ws).step p hp c hc hpos
        have hgc : goes ws p c = true := goes_iff.2 ⟨hpos, by omega⟩
        have ih := path_first hv f (p + adv c ws p 1) s hlt (by omega) hr (by omega)
        rw [path, if_pos h1, hn]
        obtain ⟨_, as, bs, hsp, hno⟩ := List.find?_eq_some_iff_append.1 hn
        have hcm : c ∈ c0 :: bs := by
          rw [hsp] at hc
          rcases List.mem_append.1 hc with h | h
          · have := hno c h; simp [hgc] at this
          · exact h
        rcases List.mem_cons.1 hcm with rfl | hcb
        · simp only [Op.bytesLess]
          simpa using ih
        · have hs := letters_sorted
          rw [hsp] at hs
          have hlt2 : c0 < c := (List.pairwise_cons.1 (List.pairwise_append.1 hs).2.1).1 c hcb
          simp [Op.bytesLess, hlt2]
    · have e : p = posN ws - 1 := by omega
      rw [e, tab_last] at hl
      have : s = [] := List.length_eq_zero_iff.1 (by omega)
      subst this
      rw [path, if_neg h1]
      rfl
theorem short_first {ws : List (List UInt8)} (hv : validW ws = true) {s : List UInt8} (hs : covers s ws = true) (hl : s.length = (shortS ws).length) : (Op.bytesLess (shortS ws) s || decide (shortS ws = s)) = true := by
  have h1 : runP ws 0 s = posN ws - 1 := of_decide_eq_true hs
  have h2 := short_len hv
  exact path_first hv (posN ws) 0 s (posN_pos ws) (by omega) h1 (by omega)
theorem short_tight {ws : List (List UInt8)} (hv : validW ws = true) {i : Nat} (hi : i < (shortS ws).length) : covers ((shortS ws).take i ++ (shortS ws).drop (i + 1)) ws = false := by
  cases h : covers ((shortS ws).take i ++ (shortS ws).drop (i + 1)) ws with
  | false => rfl
  | true =>
    have := short_least hv h
    simp at this
    omega

/-! longest common subsequences -/
def lc : List UInt8 → List UInt8 → Nat
  | [], _ => 0
  | _ :: _, [] => 0
  | a :: u, b :: v => if a = b then max (max (lc u (b :: v)) (lc (a :: u) v)) (lc u v + 1) else max (lc u (b :: v)) (lc (a :: u) v)
termination_by u v => u.length + v.length
theorem lc_nilr (u : List UInt8) : lc u [] = 0 := by cases u <;> simp [lc]
theorem lc_nill (v : List UInt8) : lc [] v = 0 := by simp [lc]
theorem lc_cons (a b : UInt8) (u v : List UInt8) : lc (a :: u) (b :: v) = if a = b then max (max (lc u (b :: v)) (lc (a :: u) v)) (lc u v + 1) else max (lc u (b :: v)) (lc (a :: u) v) := by
  rw [lc]
theorem lc_monoL (a : UInt8) (u v : List UInt8) : lc u v ≤ lc (a :: u) v := by
  cases v with
  | nil => simp [lc_nilr]
  | cons b v => rw [lc_cons]; split <;> omega
theorem lc_monoR (b : UInt8) (u v : List UInt8) : lc u v ≤ lc u (b :: v) := by
  cases u with
  | nil => simp [lc_nill]
  | cons a u => rw [lc_cons]; split <;> omega
theorem lc_dropL (u v : List UInt8) (k : Nat) : lc (u.drop k) v ≤ lc u v := by
  induction u generalizing k with
  | nil => simp
  | cons a u ih =>
    cases k with
    | zero => exact Nat.le_refl _
    | succ k => exact Nat.le_trans (ih k) (lc_monoL a u v)
theorem lc_dropR (u v : List UInt8) (k : Nat) : lc u (v.drop k) ≤ lc u v := by
  induction v generalizing k with
  | nil => simp
  | cons a v ih =>
    cases k with
    | zero => exact Nat.le_refl _
    | succ k => exact Nat.le_trans (ih k) (lc_monoR a u v)
theorem lc_le : ∀ (u v : List UInt8), lc u v ≤ u.length
  | [], v => by simp [lc_nill]
  | a :: u, [] => by simp [lc_nilr]
  | a :: u, b :: v => by
    have h1 := lc_le u (b :: v)
    have h2 := lc_le (a :: u) v
    have h3 := lc_le u v
    rw [lc_cons]
    simp only [List.length_cons] at *
    split <;> omega
termination_by u v => u.length + v.length
/-- one more letter makes it longer by at most one -/
theorem lc_stepL (a : UInt8) : ∀ (u v : List UInt8), lc (a :: u) v ≤ lc u v + 1
  | u, [] => by simp [lc_nilr]
  | u, b :: v => by
    have h1 := lc_stepL a u v
    have h2 := lc_monoR b u v
    rw [lc_cons]
    split <;> omega
termination_by u v => v.length
theorem lc_stepR (b : UInt8) : ∀ (u v : List UInt8), lc u (b :: v) ≤ lc u v + 1
  | [], v => by simp [lc_nill]
  | a :: u, v => by
    have h1 := lc_stepR b u v
    have h2 := lc_monoL a u v
    rw [lc_cons]
    split <;> omega
termination_by u v => u.length
theorem lc_same (a : UInt8) (u v : List UInt8) : lc (a :: u) (a :: v) = lc u v + 1 := by
  have h1 := lc_stepL a u v
  have h2 := lc_stepR a u v
  rw [lc_cons, if_pos rfl]; omega
theorem lc_diff {a b : UInt8} (h : a ≠ b) (u v : List UInt8) : lc (a :: u) (b :: v) = max (lc u (b :: v)) (lc (a :: u) v) := by
  rw [lc_cons, if_neg h]

/-- behind the first c -/
def behind (c : UInt8) : List UInt8 → Option (List UInt8)
  | [] => none
  | a :: u => if a = c then some u else behind c u
theorem behind_len {c : UInt8} : ∀ {u u' : List UInt8}, behind c u = some u' → u'.length < u.length
  | [], u', h => by simp [behind] at h
  | a :: u, u', h => by
    simp only [behind] at h
    split at h
    · simp at h; subst h; simp
    · have := behind_len h; simp; omega
theorem lc_behind {c : UInt8} : ∀ {u v u' v' : List UInt8}, behind c u = some u' → behind c v = some v' → lc u' v' + 1 ≤ lc u v
  | [], v, u', v', h, _ => by simp [behind] at h
  | a :: u, v, u', v', h, h2 => by
    simp only [behind] at h
    split at h
    · rename_i e
      subst e
      simp at h; subst h
      induction v with
      | nil => simp [behind] at h2
      | cons b v ih =>
        simp only [behind] at h2
        split at h2
        · rename_i e2
          subst e2
          simp at h2; subst h2
          rw [lc_same]; exact Nat.le_refl _
        · exact Nat.le_trans (ih h2) (lc_monoR b _ v)
    · exact Nat.le_trans (lc_behind h h2) (lc_monoL a u v)
theorem behind_ex : ∀ (u v : List UInt8), 0 < lc u v → ∃ c u' v', c ∈ u ∧ behind c u = some u' ∧ behind c v = some v' ∧ lc u' v' + 1 = lc u v
  | [], v, h => by simp [lc_nill] at h
  | a :: u, [], h => by simp [lc_nilr] at h
  | a :: u, b :: v, h => by
    by_cases e : a = b
    · subst e
      exact ⟨a, u, v, by simp, by simp [behind], by simp [behind], (lc_same a u v).symm⟩
    · rw [lc_diff e] at h ⊢
      by_cases hm : lc (a :: u) v ≤ lc u (b :: v)
      · rw [Nat.max_eq_left hm] at h ⊢
        obtain ⟨c, u', v', hc, h1, h2, h3⟩ := behind_ex u (b :: v) h
        by_cases ec : a = c
        · subst ec
          refine ⟨a, u, v', by simp, by simp [behind], h2, ?_⟩
          have h4 := lc_behind (u := a :: u) (by simp [behind]) h2 (u' := u)
          have h5 : lc u' v' ≤ lc u v' := by
            have : ∀ {u u' : List UInt8}, behind a u = some u' → ∃ k, u' = u.drop k := by
              intro u
              induction u with
              | nil => intro u' h; simp [behind] at h
              | cons x u ih =>
                intro u' h
                simp only [behind] at h
                split at h
                · simp at h; subst h; exact ⟨1, rfl⟩
                · obtain ⟨k, hk⟩ := ih h; exact ⟨k + 1, hk⟩
            obtain ⟨k, rfl⟩ := this h1
            exact lc_dropL u v' k
          rw [lc_diff e, Nat.max_eq_left hm] at h4
          omega
        · exact ⟨c, u', v', by simp [hc], by simp [behind, ec, h1], h2, h3⟩
      · rw [Nat.max_eq_right (by omega)] at h ⊢
        obtain ⟨c, u', v', hc, h1, h2, h3⟩ := behind_ex (a :: u) v h
        by_cases ec : b = c
        · subst ec
          refine ⟨b, u', v, hc, h1, by simp [behind], ?_⟩
          have h4 := lc_behind (v := b :: v) h1 (by simp [behind]) (v' := v)
          have h5 : lc u' v' ≤ lc u' v := by
            have : ∀ {u u' : List UInt8}, behind b u = some u' → ∃ k, u' = u.drop k := by
              intro u
              induction u with
              | nil => intro u' h; simp [behind] at h
              | cons x u ih =>
                intro u' h
                simp only [behind] at h
                split at h
                · simp at h; subst h; exact ⟨1, rfl⟩
                · obtain ⟨k, hk⟩ := ih h; exact ⟨k + 1, hk⟩
            obtain ⟨k, rfl⟩ := this h2
            exact lc_dropR u' v k
          rw [lc_diff e, Nat.max_eq_right (by omega)] at h4
          omega
        · exact ⟨c, u', v', hc, h1, by simp [behind, ec, h2], h3⟩
termination_by u v => u.length + v.length
theorem behind_get {c : UInt8} : ∀ {u : List UInt8}, behind c u = (u.findIdx? (· == c)).map fun i => u.drop (i + 1)
  | [] => rfl
  | a :: u => by
    simp only [behind, List.findIdx?_cons]
    by_cases h : a = c
    · simp [h]
    · have : (a == c) = false := by simpa using h
      rw [if_neg h, this, behind_get]
      cases u.findIdx? (· == c) <;> simp

/-- the first longest common subsequence, as the program finds it -/
def comStep (F : List UInt8 → List UInt8 → List UInt8) (u v : List UInt8) (best : List UInt8) (c : UInt8) : List UInt8 :=
  match behind c u, behind c v with
  | some u', some v' => if best.length < (c :: F u' v').length then c :: F u' v' else best
  | _, _ => best
def comF : Nat → List UInt8 → List UInt8 → List UInt8
  | 0, _, _ => []
  | f + 1, u, v => letters.foldl (comStep (comF f) u v) []
def com (u v : List UInt8) : List UInt8 := comF u.length u v
theorem comF_fuel : ∀ (f g : Nat) (u v : List UInt8), u.length ≤ f → u.length ≤ g → comF f u v = comF g u v
  | 0, g, u, v, hf, hg => by
    have : u = [] := List.length_eq_zero_iff.1 (by omega)
    subst this
    cases g with
    | zero => rfl
    | succ g => simp [comF, comStep, behind, letters]
  | f + 1, 0, u, v, hf, hg => by
    have : u = [] := List.length_eq_zero_iff.1 (by omega)
    subst this
    simp [comF, comStep, behind, letters]
  | f + 1, g + 1, u, v, hf, hg => by
    have e : comStep (comF f) u v = comStep (comF g) u v := by
      funext best c
      unfold comStep
      cases h1 : behind c u with
      | none => rfl
      | some u' =>
        cases h2 : behind c v with
        | none => rfl
        | some v' =>
          have := behind_len h1
          dsimp only
          rw [comF_fuel f g u' v' (by omega) (by omega)]
    rw [comF, comF, e]
theorem com_eq (u v : List UInt8) : com u v = letters.foldl (comStep com u v) [] := by
  have e : com u v = comF (u.length + 1) u v := comF_fuel _ _ u v (Nat.le_refl _) (by omega)
  rw [e, comF]
  congr 1
  funext best c
  unfold comStep
  cases h1 : behind c u with
  | none => rfl
  | some u' =>
    cases h2 : behind c v with
    | none => rfl
    | some v' =>
      have := behind_len h1
      dsimp only
      rw [show comF u.length u' v' = com u' v' from comF_fuel _ _ _ _ (by omega) (Nat.le_refl _)]
/-- a letter that begins a longest one -/
def begins (u v : List UInt8) (c : UInt8) : Bool := match behind c u, behind c v with
  | some u', some v' => decide (lc u' v' + 1 = lc u v)
  | _, _ => false
theorem com_len : ∀ (n : Nat) (u v : List UInt8), u.length ≤ n → (∀ c ∈ u, c ∈ letters) → (com u v).length = lc u v ∧ (0 < lc u v → ∃ c u' v', letters.find? (begins u v) = some c ∧ behind c u = some u' ∧ behind c v = some v' ∧ lc u' v' + 1 = lc u v ∧ com u v = c :: com u' v') := by
  intro n
  induction n with
  | zero =>
    intro u v h hl
    have : u = [] := List.length_eq_zero_iff.1 (by omega)
    subst this
    refine ⟨by simp [com, comF, lc_nill], fun h => by simp [lc_nill] at h⟩
  | succ n ih =>
    intro u v h hl
    have hsub : ∀ {c : UInt8} {u u' : List UInt8}, behind c u = some u' → ∀ x ∈ u', x ∈ u := by
      intro c u
      induction u with
      | nil => intro u' h; simp [behind] at h
      | cons x u ih =>
        intro u' h y hy
        simp only [behind] at h
        split at h
        · simp at h; subst h; simp [hy]
        · simp [ih h y hy]
    have hlen : ∀ {c : UInt8} {u' v' : List UInt8}, behind c u = some u' → behind c v = some v' → (c :: com u' v').length = lc u' v' + 1 := by
      intro c u' v' h1 h2
      have := behind_len h1
      rw [List.length_cons, (ih u' v' (by omega) (fun x hx => hl x (hsub h1 x hx))).1]
    -- after some letters: the best so far is no longer than the whole, and once it is as long it stays
    have stay : ∀ (l : List UInt8) (b : List UInt8), b.length = lc u v → l.foldl (comStep com u v) b = b := by
      intro l
      induction l with
      | nil => intro b _; rfl
      | cons c l ihl =>
        intro b hb
        have : comStep com u v b c = b := by
          unfold comStep
          cases h1 : behind c u with
          | none => rfl
          | some u' =>
            cases h2 : behind c v with
            | none => rfl
            | some v' =>
              have e1 := hlen h1 h2
              have e2 := lc_behind h1 h2
              show (if b.length < _ then _ else b) = b
              rw [if_neg (by omega)]
        rw [List.foldl_cons, this]; exact ihl b hb
    have key : ∀ (l : List UInt8) (b : List UInt8), b.length < lc u v → (∃ c ∈ l, begins u v c = true) → ∃ c u' v', l.find? (begins u v) = some c ∧ behind c u = some u' ∧ behind c v = some v' ∧ lc u' v' + 1 = lc u v ∧ l.foldl (comStep com u v) b = c :: com u' v' := by
      intro l
      induction l with
      | nil => rintro b _ ⟨c, hc, _⟩; simp at hc
      | cons c l ihl =>
        intro b hb hex
        rw [List.foldl_cons]
        by_cases hc : begins u v c = true
        · unfold begins at hc
          cases h1 : behind c u with
          | none => simp [h1] at hc
          | some u' =>
            cases h2 : behind c v with
            | none => simp [h1, h2] at hc
            | some v' =>
              have hc0 : begins u v c = true := hc
              rw [h1, h2] at hc
              have hc1 := of_decide_eq_true hc
              have e1 := hlen h1 h2
              have : comStep com u v b c = c :: com u' v' := by
                unfold comStep; rw [h1, h2]; show (if _ then _ else _) = _; rw [if_pos (by omega)]
              refine ⟨c, u', v', by rw [List.find?_cons_of_pos hc0], h1, h2, hc1, ?_⟩
              rw [this]
              exact stay l _ (by omega)
        · have hb2 : (comStep com u v b c).length < lc u v := by
            unfold comStep
            unfold begins at hc
            cases h1 : behind c u with
            | none => exact hb
            | some u' =>
              cases h2 : behind c v with
              | none => exact hb
              | some v' =>
                rw [h1, h2] at hc
                have hc1 : ¬ lc u' v' + 1 = lc u v := by simpa using hc
                have e1 := hlen h1 h2
                have e2 := lc_behind h1 h2
                show (if _ then _ else _ : List UInt8).length < _
                split
                · omega
                · exact hb
          obtain ⟨d, hd, hdg⟩ := hex
          rcases List.mem_cons.1 hd with rfl | hd
          · exact (hc hdg).elim
          · obtain ⟨e, u', v', f1, f2⟩ := ihl _ hb2 ⟨d, hd, hdg⟩
            exact ⟨e, u', v', by rw [List.find?_cons_of_neg hc]; exact f1, f2⟩
    by_cases h0 : 0 < lc u v
    · obtain ⟨c, u', v', hcu, h1, h2, h3⟩ := behind_ex u v h0
      obtain ⟨d, u1, v1, f1, f2, f3, f4, f5⟩ := key letters [] (by simpa using h0) ⟨c, hl c hcu, by simp [begins, h1, h2, h3]⟩
      rw [← com_eq] at f5
      refine ⟨?_, fun _ => ⟨d, u1, v1, f1, f2, f3, f4, f5⟩⟩
      rw [f5, hlen f2 f3, f4]
    · refine ⟨?_, fun h => (h0 h).elim⟩
      rw [com_eq, stay letters [] (by simp; omega)]
      simp; omega

/-! two words: the table and the longest common subsequence -/
theorem posN_two (u v : List UInt8) : posN [u, v] = (u.length + 1) * (v.length + 1) := by simp [posN]
theorem adv_two {u v : List UInt8} (c : UInt8) {i j : Nat} (hi : i ≤ u.length) (hj : j ≤ v.length) : adv c [u, v] (i + (u.length + 1) * j) 1 = (if u[i]? = some c then 1 else 0) + (if v[j]? = some c then u.length + 1 else 0) := by
  have e1 : (i + (u.length + 1) * j) % (u.length + 1) = i := by rw [Nat.add_mul_mod_self_left, Nat.mod_eq_of_lt (by omega)]
  have e2 : (i + (u.length + 1) * j) / (u.length + 1) = j := by rw [Nat.add_mul_div_left _ _ (by omega), Nat.div_eq_of_lt (by omega), Nat.zero_add]
  simp only [adv]
  rw [e1, e2, Nat.mod_eq_of_lt (show j < v.length + 1 by omega)]
  simp
theorem mem_of_get {u : List UInt8} {i : Nat} {c : UInt8} (h : u[i]? = some c) : c ∈ u := List.mem_of_getElem? h
theorem drop_of_get {u : List UInt8} {i : Nat} {c : UInt8} (h : u[i]? = some c) : u.drop i = c :: u.drop (i + 1) := by
  obtain ⟨h1, h2⟩ := List.getElem?_eq_some_iff.1 h
  rw [List.drop_eq_getElem_cons h1, h2]
theorem two_pos {u v : List UInt8} {i j : Nat} (hi : i ≤ u.length) (hj : j ≤ v.length) : i + (u.length + 1) * j < posN [u, v] := by
  rw [posN_two]
  have : (u.length + 1) * (j + 1) ≤ (u.length + 1) * (v.length + 1) := Nat.mul_le_mul_left _ (by omega)
  rw [Nat.mul_add] at this
  omega
theorem dual {u v : List UInt8} (hv : validW [u, v] = true) : ∀ (k i j : Nat), i ≤ u.length → j ≤ v.length → u.length - i + (v.length - j) = k → (tableOf [u, v]).getD (i + (u.length + 1) * j) 0 + (lc (u.drop i) (v.drop j) : Nat) = (k : Int) := by
  intro k
  induction k using Nat.strongRecOn with
  | _ k ih =>
    intro i j hi hj hk
    have hlet := validW_letters hv
    have hpos := two_pos hi hj
    by_cases hend : i = u.length ∧ j = v.length
    · obtain ⟨rfl, rfl⟩ := hend
      have e : u.length + (u.length + 1) * v.length = posN [u, v] - 1 := by rw [posN_two, Nat.mul_add (u.length + 1)]; omega
      rw [e, tab_last]
      simp [lc_nill]; omega
    · have hlt : i + (u.length + 1) * j + 1 < posN [u, v] := by
        rcases Nat.lt_or_ge (i + (u.length + 1) * j + 1) (posN [u, v]) with h | h
        · exact h
        · exfalso
          apply hend
          by_cases hjl : j = v.length
          · subst hjl
            rw [posN_two, Nat.mul_add (u.length + 1)] at h
            exact ⟨by omega, rfl⟩
          · have : (u.length + 1) * (j + 1) ≤ (u.length + 1) * v.length := Nat.mul_le_mul_left _ (by omega)
            rw [posN_two, Nat.mul_add (u.length + 1)] at h
            rw [Nat.mul_add] at this
            omega
      -- what a letter leads to
      have stepB : ∀ c, u[i]? = some c → v[j]? = some c → (tableOf [u, v]).getD (i + (u.length + 1) * j + adv c [u, v] (i + (u.length + 1) * j) 1) 0 + (lc (u.drop i) (v.drop j) : Nat) = (k : Int) - 1 ∧ 0 < adv c [u, v] (i + (u.length + 1) * j) 1 := by
        intro c h1 h2
        have := (List.getElem?_eq_some_iff.1 h1).1
        have := (List.getElem?_eq_some_iff.1 h2).1
        have ih' := ih (k - 2) (by omega) (i + 1) (j + 1) (by omega) (by omega) (by omega)
        rw [adv_two c hi hj, if_pos h1, if_pos h2, drop_of_get h1, drop_of_get h2, lc_same]
        rw [show i + (u.length + 1) * j + (1 + (u.length + 1)) = i + 1 + (u.length + 1) * (j + 1) by rw [Nat.mul_add]; omega]
        refine ⟨by omega, by omega⟩
      have stepU : ∀ c, u[i]? = some c → v[j]? ≠ some c → (tableOf [u, v]).getD (i + (u.length + 1) * j + adv c [u, v] (i + (u.length + 1) * j) 1) 0 + (lc (u.drop (i + 1)) (v.drop j) : Nat) = (k : Int) - 1 ∧ 0 < adv c [u, v] (i + (u.length + 1) * j) 1 := by
        intro c h1 h2
        have := (List.getElem?_eq_some_iff.1 h1).1
        have ih' := ih (k - 1) (by omega) (i + 1) j (by omega) (by omega) (by omega)
        rw [adv_two c hi hj, if_pos h1, if_neg h2]
        rw [show i + (u.length + 1) * j + (1 + 0) = i + 1 + (u.length + 1) * j by omega]
        refine ⟨by omega, by omega⟩
      have stepV : ∀ c, u[i]? ≠ some c → v[j]? = some c → (tableOf [u, v]).getD (i + (u.length + 1) * j + adv c [u, v] (i + (u.length + 1) * j) 1) 0 + (lc (u.drop i) (v.drop (j + 1)) : Nat) = (k : Int) - 1 ∧ 0 < adv c [u, v] (i + (u.length + 1) * j) 1 := by
        intro c h1 h2
        have := (List.getElem?_eq_some_iff.1 h2).1
        have ih' := ih (k - 1) (by omega) i (j + 1) (by omega) (by omega) (by omega)
        rw [adv_two c hi hj, if_neg h1, if_pos h2]
        rw [show i + (u.length + 1) * j + (0 + (u.length + 1)) = i + (u.length + 1) * (j + 1) by rw [Nat.mul_add]; omega]
        refine ⟨by omega, by omega⟩
      refine Int.le_antisymm ?_ ?_
      · -- some letter leads on as well as that
        rw [tab_at hlt]
        have up : ∀ c, c ∈ letters → 0 < adv c [u, v] (i + (u.length + 1) * j) 1 → (tableOf [u, v]).getD (i + (u.length + 1) * j + adv c [u, v] (i + (u.length + 1) * j) 1) 0 + (lc (u.drop i) (v.drop j) : Nat) ≤ (k : Int) - 1 → bestOf [u, v] (tableOf [u, v]) (i + (u.length + 1) * j) letters + (lc (u.drop i) (v.drop j) : Nat) ≤ (k : Int) := by
          intro c hc h0 h
          have := best_le (t := tableOf [u, v]) h0 letters hc
          omega
        cases hu : u[i]? with
        | none =>
          have hi' : i = u.length := by have := List.getElem?_eq_none_iff.1 hu; omega
          have hjl : j < v.length := by omega
          have hvj : v[j]? = some v[j] := List.getElem?_eq_getElem hjl
          obtain ⟨h1, h2⟩ := stepV v[j] (by rw [hu]; simp) hvj
          refine up v[j] (hlet v (by simp) _ (mem_of_get hvj)) h2 ?_
          have : u.drop i = [] := List.drop_eq_nil_iff.2 (by omega)
          rw [this, lc_nill] at h1 ⊢
          omega
        | some a =>
          cases hw : v[j]? with
          | none =>
            obtain ⟨h1, h2⟩ := stepU a hu (by rw [hw]; simp)
            refine up a (hlet u (by simp) _ (mem_of_get hu)) h2 ?_
            have : v.drop j = [] := List.drop_eq_nil_iff.2 (List.getElem?_eq_none_iff.1 hw)
            rw [this, lc_nilr] at h1 ⊢
            omega
          | some b =>
            by_cases e : a = b
            · subst e
              obtain ⟨h1, h2⟩ := stepB a hu hw
              exact up a (hlet u (by simp) _ (mem_of_get hu)) h2 (by omega)
            · obtain ⟨h1, h2⟩ := stepU a hu (by rw [hw]; simpa using fun h => e h.symm)
              obtain ⟨h3, h4⟩ := stepV b (by rw [hu]; simpa using e) hw
              have hd : lc (u.drop i) (v.drop j) = max (lc (u.drop (i + 1)) (v.drop j)) (lc (u.drop i) (v.drop (j + 1))) := by
                rw [drop_of_get hu, drop_of_get hw, lc_diff e]
              by_cases hm : lc (u.drop i) (v.drop (j + 1)) ≤ lc (u.drop (i + 1)) (v.drop j)
              · exact up a (hlet u (by simp) _ (mem_of_get hu)) h2 (by omega)
              · exact up b (hlet v (by simp) _ (mem_of_get hw)) h4 (by omega)
      · -- no letter leads on better
        obtain ⟨c, hc, hg⟩ := goes_ex hv hlt
        obtain ⟨h0, h1⟩ := goes_iff.1 hg
        have m1 := lc_dropL (u.drop i) (v.drop j) 1
        have m2 := lc_dropR (u.drop i) (v.drop j) 1
        rw [List.drop_drop] at m1 m2
        by_cases hu : u[i]? = some c
        · by_cases hw : v[j]? = some c
          · obtain ⟨h3, _⟩ := stepB c hu hw; omega
          · obtain ⟨h3, _⟩ := stepU c hu hw; omega
        · by_cases hw : v[j]? = some c
          · obtain ⟨h3, _⟩ := stepV c hu hw; omega
          · rw [adv_two c hi hj, if_neg hu, if_neg hw] at h0; omega
theorem dual_two {u v : List UInt8} (hv : validW [u, v] = true) : (shortS [u, v]).length + lc u v = u.length + v.length := by
  have h1 := dual hv (u.length + v.length) 0 0 (Nat.zero_le _) (Nat.zero_le _) (by omega)
  have h2 := short_len hv
  rw [show 0 + (u.length + 1) * 0 = 0 by simp, List.drop_zero, List.drop_zero] at h1
  omega

end Go.Proofs.YtgeahmmepfmcoaaDoor
