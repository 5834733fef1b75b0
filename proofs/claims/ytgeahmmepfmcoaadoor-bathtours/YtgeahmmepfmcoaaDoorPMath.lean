/- parts that the proof of BathTours uses -/
import Derived.Test.YtgeahmmepfmcoaaDoorTMath
namespace Go.Proofs.YtgeahmmepfmcoaaDoor
open Go L
set_option linter.unusedVariables false
set_option linter.unusedSimpArgs false

def inV (n j : Nat) : Prop := 1 ≤ j ∧ j < n
def Conn (n : Nat) (s : Nat) (E : List (Nat × Nat)) : Prop := ∀ T : Nat → Bool, (∀ j, s.testBit j = true → T j = true) → (∃ j, inV n j ∧ T j = false) → ∃ e ∈ E, T e.1 ≠ T e.2
def Ends (n : Nat) (E : List (Nat × Nat)) : Prop := ∀ e ∈ E, inV n e.1 ∧ inV n e.2
def sumE (w : Nat → Nat → Int) (E : List (Nat × Nat)) : Int := E.foldr (fun e t => w e.1 e.2 + t) 0
theorem sumE_mid (w : Nat → Nat → Int) (e : Nat × Nat) (E2 : List (Nat × Nat)) : ∀ E1, sumE w (E1 ++ e :: E2) = w e.1 e.2 + sumE w (E1 ++ E2)
  | [] => rfl
  | x :: E1 => by
    have ih := sumE_mid w e E2 E1
    show w x.1 x.2 + sumE w (E1 ++ e :: E2) = w e.1 e.2 + (w x.1 x.2 + sumE w (E1 ++ E2))
    rw [ih]; omega

theorem exch {n s v : Nat} {E : List (Nat × Nat)} (hv : inV n v) (hsv : s.testBit v = false) (hE : Ends n E) (hc : Conn n s E) :
    ∃ E1 e E2, E = E1 ++ e :: E2 ∧ ((s.testBit e.1 = true ∧ s.testBit e.2 = false) ∨ (s.testBit e.1 = false ∧ s.testBit e.2 = true)) ∧ Conn n (s ||| 2 ^ v) (E1 ++ E2) := by
  classical
  -- the part that hangs together with v outside of s
  let inner : Nat × Nat → Prop := fun e => s.testBit e.1 = false ∧ s.testBit e.2 = false
  let closed : (Nat → Bool) → Prop := fun X => ∀ e ∈ E, inner e → X e.1 = X e.2
  let C : Nat → Prop := fun x => ∀ X : Nat → Bool, X v = true → closed X → X x = true
  have hCv : C v := fun X h _ => h
  have hCs : ∀ x, C x → s.testBit x = false := fun x hx => by
    have := hx (fun j => !s.testBit j) (by simp [hsv]) (fun e he hi => by simp [hi.1, hi.2])
    simpa using this
  have hCc : ∀ e ∈ E, inner e → (C e.1 ↔ C e.2) := fun e he hi => ⟨fun h X h1 h2 => by rw [← h2 e he hi]; exact h X h1 h2, fun h X h1 h2 => by rw [h2 e he hi]; exact h X h1 h2⟩
  obtain ⟨e, he, hx⟩ := hc (fun j => !decide (C j)) (fun j hj => by
    have : ¬ C j := fun h => by rw [hCs j h] at hj; simp at hj
    simp [this]) ⟨v, hv, by simp [hCv]⟩
  have hx' : ¬ (C e.1 ↔ C e.2) := fun h => hx (by by_cases h1 : C e.1 <;> simp_all)
  have hcross : (s.testBit e.1 = true ∧ C e.2) ∨ (C e.1 ∧ s.testBit e.2 = true) := by
    have hni : ¬ inner e := fun h => hx' (hCc e he h)
    by_cases h1 : C e.1
    · have a1 := hCs _ h1
      refine .inr ⟨h1, ?_⟩
      cases h2 : s.testBit e.2 with
      | true => rfl
      | false => exact (hni ⟨a1, h2⟩).elim
    · have h2 : C e.2 := Classical.byContradiction fun h2 => hx' ⟨fun h => (h1 h).elim, fun h => (h2 h).elim⟩
      have a2 := hCs _ h2
      refine .inl ⟨?_, h2⟩
      cases h3 : s.testBit e.1 with
      | true => rfl
      | false => exact (hni ⟨h3, a2⟩).elim
  obtain ⟨E1, E2, rfl⟩ := List.append_of_mem he
  refine ⟨E1, e, E2, rfl, ?_, fun T hT hmiss => ?_⟩
  · rcases hcross with ⟨h1, h2⟩ | ⟨h1, h2⟩
    · exact .inl ⟨h1, hCs _ h2⟩
    · exact .inr ⟨hCs _ h1, h2⟩
  · have hTs : ∀ j, s.testBit j = true → T j = true := fun j hj => hT j (by rw [or_bit, hj]; rfl)
    have hTv : T v = true := hT v (by rw [or_bit]; simp)
    -- an edge that is not e crosses
    have key : ∀ x, C x → T x = false → ∃ f ∈ E1 ++ E2, T f.1 ≠ T f.2 := fun x hCx hTx => by
      refine Classical.byContradiction fun hno => ?_
      have hcl : closed T := fun f hf hi => by
        refine Classical.byContradiction fun hne => hno ⟨f, ?_, hne⟩
        rcases List.mem_append.1 hf with h | h
        · exact List.mem_append.2 (.inl h)
        · rcases List.mem_cons.1 h with h | h
          · subst h
            rcases hcross with ⟨h1, _⟩ | ⟨_, h1⟩
            · have := hi.1; rw [h1] at this; simp at this
            · have := hi.2; rw [h1] at this; simp at this
          · exact List.mem_append.2 (.inr h)
      have := hCx T hTv hcl
      rw [hTx] at this; simp at this
    obtain ⟨f, hf, hfx⟩ := hc T hTs hmiss
    rcases List.mem_append.1 hf with h | h
    · exact ⟨f, List.mem_append.2 (.inl h), hfx⟩
    · rcases List.mem_cons.1 h with h | h
      · subst h
        rcases hcross with ⟨h1, h2⟩ | ⟨h1, h2⟩
        · have a1 := hTs _ h1
          rw [a1] at hfx
          exact key _ h2 (by cases hb : T f.2 <;> simp_all)
        · have a1 := hTs _ h2
          rw [a1] at hfx
          exact key _ h1 (by cases hb : T f.1 <;> simp_all)
      · exact ⟨f, List.mem_append.2 (.inr h), hfx⟩

inductive Prim (n : Nat) (w : Nat → Nat → Int) : Nat → Nat → Int → Prop where
  | zero : Prim n w (2 ^ n - 1) 0 0
  | step {s u v r : Nat} {t : Int} (hs : s < 2 ^ n) (hu : inV n u) (hv : inV n v) (hsu : s.testBit u = true) (hsv : s.testBit v = false) (hmin : ∀ a b, inV n a → inV n b → s.testBit a = true → s.testBit b = false → w u v ≤ w a b) (h : Prim n w (s ||| 2 ^ v) r t) : Prim n w s (r + 1) (w u v + t)
theorem Prim.len {n s r : Nat} {w : Nat → Nat → Int} {t : Int} (h : Prim n w s r t) : pc n s + r = n := by
  induction h with
  | zero => exact (pc_full (by have := Nat.pow_pos (n := n) (show 0 < 2 by decide); omega)).2 rfl
  | @step s u v r t hs hu hv hsu hsv hmin h ih =>
    have := pc_or hv.2 hsv
    omega
theorem Prim.le {n s r : Nat} {w : Nat → Nat → Int} {t : Int} (hw : ∀ a b, inV n a → inV n b → w a b = w b a) (h : Prim n w s r t) : ∀ E, Ends n E → Conn n s E → E.length = r → t ≤ sumE w E := by
  induction h with
  | zero =>
    intro E _ _ hl
    obtain rfl := List.length_eq_zero_iff.1 hl
    exact Int.le_refl _
  | @step s u v r t hs hu hv hsu hsv hmin h ih =>
    intro E hE hc hl
    obtain ⟨E1, e, E2, rfl, hx, hc'⟩ := exch hv hsv hE hc
    have hE' : Ends n (E1 ++ E2) := fun f hf => hE f (by
      rcases List.mem_append.1 hf with h | h
      · exact List.mem_append.2 (.inl h)
      · exact List.mem_append.2 (.inr (List.mem_cons_of_mem _ h)))
    have h1 := ih (E1 ++ E2) hE' hc' (by simp at hl ⊢; omega)
    have he := hE e (by simp)
    rw [sumE_mid]
    have h2 : w u v ≤ w e.1 e.2 := by
      rcases hx with ⟨a1, a2⟩ | ⟨a1, a2⟩
      · exact hmin _ _ he.1 he.2 a1 a2
      · rw [hw _ _ he.1 he.2]; exact hmin _ _ he.2 he.1 a2 a1
    omega
theorem Prim.edges {n s r : Nat} {w : Nat → Nat → Int} {t : Int} (h : Prim n w s r t) : ∃ E, Ends n E ∧ Conn n s E ∧ E.length = r ∧ sumE w E = t := by
  induction h with
  | zero =>
    refine ⟨[], fun e he => by simp at he, fun T hT ⟨j, hj, hb⟩ => ?_, rfl, rfl⟩
    have := hT j (by rw [full_bit, decide_eq_true hj.2])
    rw [hb] at this; simp at this
  | @step s u v r t hs hu hv hsu hsv hmin h ih =>
    obtain ⟨E, h1, h2, h3, h4⟩ := ih
    refine ⟨(u, v) :: E, fun e he => ?_, fun T hT hm => ?_, by simp [h3], by show w u v + sumE w E = _; rw [h4]⟩
    · rcases List.mem_cons.1 he with rfl | he
      · exact ⟨hu, hv⟩
      · exact h1 e he
    · cases hb : T v with
      | false => exact ⟨(u, v), by simp, by show T u ≠ T v; rw [hb, hT u hsu]; simp⟩
      | true =>
        obtain ⟨e, he, hx⟩ := h2 T (fun j hj => by
          rw [or_bit, Bool.or_eq_true, decide_eq_true_eq] at hj
          rcases hj with hj | rfl
          · exact hT j hj
          · exact hb) hm
        exact ⟨e, by simp [he], hx⟩
theorem Prim.eq {n s r r' : Nat} {w : Nat → Nat → Int} {t t' : Int} (hw : ∀ a b, inV n a → inV n b → w a b = w b a) (h : Prim n w s r t) (h' : Prim n w s r' t') : t = t' := by
  have l := h.len
  have l' := h'.len
  obtain ⟨E, a1, a2, a3, a4⟩ := h.edges
  obtain ⟨E', b1, b2, b3, b4⟩ := h'.edges
  have := h.le hw E' b1 b2 (by omega)
  have := h'.le hw E a1 a2 (by omega)
  omega
inductive PrimF (n : Nat) (w : Nat → Nat → Int) (s0 : Nat) : Nat → Int → Prop where
  | start : PrimF n w s0 s0 0
  | step {s u v : Nat} {t : Int} (h : PrimF n w s0 s t) (hs : s < 2 ^ n) (hu : inV n u) (hv : inV n v) (hsu : s.testBit u = true) (hsv : s.testBit v = false) (hmin : ∀ a b, inV n a → inV n b → s.testBit a = true → s.testBit b = false → w u v ≤ w a b) : PrimF n w s0 (s ||| 2 ^ v) (t + w u v)
theorem PrimF.conv {n s0 s : Nat} {w : Nat → Nat → Int} {t : Int} (h : PrimF n w s0 s t) : ∀ {r : Nat} {t2 : Int}, Prim n w s r t2 → ∃ r', Prim n w s0 r' (t + t2) := by
  induction h with
  | start => intro r t2 h; exact ⟨r, by rw [Int.zero_add]; exact h⟩
  | step h hs hu hv hsu hsv hmin ih =>
    intro r t2 h2
    obtain ⟨r', h3⟩ := ih (Prim.step hs hu hv hsu hsv hmin h2)
    exact ⟨r', by rw [Int.add_assoc]; exact h3⟩
theorem PrimF.full {n s0 : Nat} {w : Nat → Nat → Int} {t : Int} (h : PrimF n w s0 (2 ^ n - 1) t) : ∃ r, Prim n w s0 r t := by
  obtain ⟨r, h2⟩ := h.conv Prim.zero
  exact ⟨r, by rw [Int.add_zero] at h2; exact h2⟩

def two1 (p : Int × Int) (x : Int) : Int × Int := if x < p.1 then (x, p.1) else if x < p.2 then (p.1, x) else p
theorem two1_comm (z : Int × Int) (x y : Int) : two1 (two1 z x) y = two1 (two1 z y) x := by
  obtain ⟨a, b⟩ := z
  unfold two1
  dsimp only
  repeat' split
  all_goals dsimp only at *
  all_goals first | rfl | (refine Prod.ext ?_ ?_ <;> dsimp only <;> omega) | omega
def twoL (zs : List Int) : Int × Int := zs.foldl two1 (far2, far2)
theorem twoL_perm {a b : List Int} (h : a.Perm b) : twoL a = twoL b := by
  unfold twoL
  exact h.foldl_eq' (fun x _ y _ z => two1_comm z x y) _
theorem two_stay : ∀ (l : List Int) (p : Int × Int), p.1 ≤ p.2 → (∀ x ∈ l, p.2 ≤ x) → l.foldl two1 p = p
  | [], p, _, _ => rfl
  | x :: l, p, h, hx => by
    have h1 := hx x (by simp)
    have : two1 p x = p := by
      unfold two1
      rw [if_neg (by omega), if_neg (by omega)]
    rw [List.foldl_cons, this]
    exact two_stay l p h fun y hy => hx y (by simp [hy])
theorem twoL_sorted {a b : Int} {l : List Int} (h1 : a ≤ b) (h2 : ∀ x ∈ l, b ≤ x) (ha : b < far2) : twoL (a :: b :: l) = (a, b) := by
  unfold twoL
  rw [List.foldl_cons, List.foldl_cons]
  have e1 : two1 (far2, far2) a = (a, far2) := by unfold two1; rw [if_pos (by dsimp only; omega)]
  have e2 : two1 (a, far2) b = (a, b) := by unfold two1; rw [if_neg (by dsimp only; omega), if_pos (by dsimp only; omega)]
  rw [e1, e2]
  exact two_stay l (a, b) h1 h2
end Go.Proofs.YtgeahmmepfmcoaaDoor
