/- parts that the proof of BathTours uses -/
import Derived.Test.YtgeahmmepfmcoaaDoorOMath
namespace Go.Proofs.YtgeahmmepfmcoaaDoor
open Go L
set_option linter.unusedVariables false
set_option linter.unusedSimpArgs false

def homeF (n : Nat) (d : Rows2) : Nat → Nat → Nat → Int
  | 0, _, _ => 0
  | f + 1, s, i => if s = 2 ^ n - 1 then cst d i 0 else bestJ [] (fun j => cst d i j + homeF n d f (s ||| 2 ^ j) j) s far2 (List.range n)
theorem homeF_fuel {n : Nat} {d : Rows2} : ∀ (f g s i : Nat), s < 2 ^ n → 2 ^ n ≤ f + s → 2 ^ n ≤ g + s → homeF n d f s i = homeF n d g s i
  | 0, g, s, i, hs, hf, hg => by omega
  | f + 1, 0, s, i, hs, hf, hg => by omega
  | f + 1, g + 1, s, i, hs, hf, hg => by
    rw [homeF, homeF]
    congr 1
    refine bestJ_congr _ _ fun j hj hfol => ?_
    have := or_gt (fol_not hfol)
    rw [homeF_fuel f g (s ||| 2 ^ j) j (or_lt hs (List.mem_range.1 hj)) (by omega) (by omega)]
def home (n : Nat) (d : Rows2) (s i : Nat) : Int := homeF n d (2 ^ n) s i
theorem home_eq {n : Nat} {d : Rows2} {s : Nat} (hs : s < 2 ^ n) (i : Nat) : home n d s i = if s = 2 ^ n - 1 then cst d i 0 else bestJ [] (fun j => cst d i j + home n d (s ||| 2 ^ j) j) s far2 (List.range n) := by
  have e : home n d s i = homeF n d (2 ^ n + 1) s i := homeF_fuel _ _ _ _ hs (by omega) (by omega)
  rw [e, homeF]; rfl
theorem fol00 {s j : Nat} : fol [] s j = !s.testBit j := by simp [fol]
theorem free {n s : Nat} (hs : s < 2 ^ n) (hne : s ≠ 2 ^ n - 1) : ∃ j, j < n ∧ fol [] s j = true := by
  refine Classical.byContradiction fun h => hne ?_
  refine Nat.eq_of_testBit_eq fun i => ?_
  rw [full_bit]
  by_cases hi : i < n
  · rw [decide_eq_true hi]
    cases hb : s.testBit i with
    | true => rfl
    | false => exact (h ⟨i, hi, by rw [fol00, hb]; rfl⟩).elim
  · rw [decide_eq_false hi]; exact Nat.testBit_lt_two_pow (Nat.lt_of_lt_of_le hs (Nat.pow_le_pow_right (by decide) (by omega)))
theorem home_bd {n : Nat} {d : Rows2} (hc : Costs n d) (h0 : 0 < n) : ∀ (k s i : Nat), s + k + 1 = 2 ^ n → i < n → 0 ≤ home n d s i ∧ (2 ^ n ≤ 1024 → home n d s i ≤ 1000 * (k + 1)) := by
  intro k
  induction k using Nat.strongRecOn with
  | _ k ih =>
    intro s i hk hi
    have hfar : far2 = 1099511627776 := rfl
    rw [home_eq (by omega)]
    by_cases hfull : s = 2 ^ n - 1
    · rw [if_pos hfull]
      have := hc i 0 hi h0
      exact ⟨this.1, fun _ => by omega⟩
    · rw [if_neg hfull]
      have step : ∀ j, j < n → fol [] s j = true → 0 ≤ cst d i j + home n d (s ||| 2 ^ j) j ∧ (2 ^ n ≤ 1024 → cst d i j + home n d (s ||| 2 ^ j) j ≤ 1000 * (k + 1)) := fun j hj hf => by
        have hgt := or_gt (fol_not hf)
        have hlt := or_lt (show s < 2 ^ n by omega) hj
        have := ih (2 ^ n - (s ||| 2 ^ j) - 1) (by omega) (s ||| 2 ^ j) j (by omega) hj
        have h3 := hc i j hi hj
        exact ⟨by omega, fun h => by have := this.2 h; omega⟩
      refine ⟨?_, fun h10 => ?_⟩
      · rcases bestJ_ex (be := []) (f := fun j => cst d i j + home n d (s ||| 2 ^ j) j) (s := s) (List.range n) far2 with h | ⟨j, hj, hf, h⟩
        · rw [h]; omega
        · rw [h]; exact (step j (List.mem_range.1 hj) hf).1
      · obtain ⟨j, hj, hf⟩ := free (s := s) (by omega) hfull
        have hle := (bestJ_le (be := []) (f := fun j => cst d i j + home n d (s ||| 2 ^ j) j) (s := s) (List.range n) far2).2 j (List.mem_range.2 hj) hf
        have := (step j hj hf).2 h10
        omega
theorem home_lim {n : Nat} {d : Rows2} (hc : Costs n d) (h0 : 0 < n) (h10 : n ≤ 10) {s i : Nat} (hs : s < 2 ^ n) (hi : i < n) : 0 ≤ home n d s i ∧ home n d s i ≤ 1024000 := by
  have hp := pow_few h10
  have h := home_bd hc h0 (2 ^ n - s - 1) s i (by omega) hi
  have := h.2 hp
  exact ⟨h.1, by omega⟩
theorem home_min {n : Nat} {d : Rows2} (hc : Costs n d) (h0 : 0 < n) (h10 : n ≤ 10) {s i : Nat} (hs : s < 2 ^ n) (hi : i < n) (hne : s ≠ 2 ^ n - 1) :
    (∀ j, j < n → fol [] s j = true → home n d s i ≤ cst d i j + home n d (s ||| 2 ^ j) j) ∧ ∃ j, j < n ∧ fol [] s j = true ∧ cst d i j + home n d (s ||| 2 ^ j) j = home n d s i := by
  have hfar : far2 = 1099511627776 := rfl
  have hl := (home_lim hc h0 h10 hs hi).2
  have e := home_eq (d := d) hs i
  rw [if_neg hne] at e
  refine ⟨fun j hj hf => ?_, ?_⟩
  · rw [e]; exact (bestJ_le (be := []) (f := fun j => cst d i j + home n d (s ||| 2 ^ j) j) (s := s) (List.range n) far2).2 j (List.mem_range.2 hj) hf
  · rcases bestJ_ex (be := []) (f := fun j => cst d i j + home n d (s ||| 2 ^ j) j) (s := s) (List.range n) far2 with h | ⟨j, hj, hf, h⟩
    · rw [← e] at h; omega
    · rw [← e] at h; exact ⟨j, List.mem_range.1 hj, hf, h.symm⟩
def pickT (n : Nat) (d : Rows2) (s i : Nat) : Option Nat := (List.range n).find? fun j => fol [] s j && decide (cst d i j + home n d (s ||| 2 ^ j) j = home n d s i)
def restT (n : Nat) (d : Rows2) : Nat → Nat → Nat → List Nat
  | 0, _, _ => []
  | k + 1, s, i => match pickT n d s i with
    | some j => j :: restT n d k (s ||| 2 ^ j) j
    | none => []
def tourT (n : Nat) (d : Rows2) : List Nat := 0 :: restT n d (n - 1) 1 0
theorem pickT_ex {n : Nat} {d : Rows2} (hc : Costs n d) (h0 : 0 < n) (h10 : n ≤ 10) {s i : Nat} (hs : s < 2 ^ n) (hi : i < n) (hne : s ≠ 2 ^ n - 1) :
    ∃ j, pickT n d s i = some j ∧ j < n ∧ fol [] s j = true ∧ cst d i j + home n d (s ||| 2 ^ j) j = home n d s i := by
  obtain ⟨j, hj, hf, he⟩ := (home_min hc h0 h10 hs hi hne).2
  cases hpk : pickT n d s i with
  | none =>
    have := List.find?_eq_none.1 hpk j (List.mem_range.2 hj)
    simp [hf, he] at this
  | some j =>
    have h1 := List.find?_some hpk
    have h2 := List.mem_of_find?_eq_some hpk
    simp only [Bool.and_eq_true, decide_eq_true_eq] at h1
    exact ⟨j, rfl, List.mem_range.1 h2, h1.1, h1.2⟩
def lenT (d : Rows2) : Nat → List Nat → Int
  | i, [] => cst d i 0
  | i, j :: l => cst d i j + lenT d j l
theorem tour_ok {n : Nat} {d : Rows2} (hc : Costs n d) (h0 : 0 < n) (h10 : n ≤ 10) : ∀ (k s i : Nat), s < 2 ^ n → i < n → pc n s + k = n →
    okO n [] s (restT n d k s i) = true ∧ (restT n d k s i).length = k ∧ lenT d i (restT n d k s i) = home n d s i ∧
    ∀ l, okO n [] s l = true → l.length = k → home n d s i ≤ lenT d i l ∧ (home n d s i = lenT d i l → cmpN (restT n d k s i) l ≤ 0)
  | 0, s, i, hs, hi, hk => by
    have hf := (pc_full hs).1 (by omega)
    have e := home_eq (d := d) hs i
    rw [if_pos hf] at e
    refine ⟨rfl, rfl, e.symm, fun l _ hl => ?_⟩
    obtain rfl := List.length_eq_zero_iff.1 hl
    exact ⟨by rw [e]; exact Int.le_refl _, fun _ => Int.le_refl _⟩
  | k + 1, s, i, hs, hi, hk => by
    have hne : s ≠ 2 ^ n - 1 := fun e => by have := (pc_full hs).2 e; omega
    obtain ⟨j, hp, hj, hf, he⟩ := pickT_ex hc h0 h10 hs hi hne
    have hpc := pc_or hj (fol_not hf)
    obtain ⟨a1, a2, a3, a4⟩ := tour_ok hc h0 h10 k (s ||| 2 ^ j) j (or_lt hs hj) hj (by omega)
    have er : restT n d (k + 1) s i = j :: restT n d k (s ||| 2 ^ j) j := by rw [restT, hp]
    rw [er]
    refine ⟨by rw [okO, decide_eq_true hj, hf, a1]; rfl, by rw [List.length_cons, a2], by rw [lenT, a3, he], fun l hl hlen => ?_⟩
    cases l with
    | nil => simp at hlen
    | cons q l =>
      simp only [okO, Bool.and_eq_true, decide_eq_true_eq] at hl
      obtain ⟨⟨hq, hfq⟩, hok⟩ := hl
      have hlen' : l.length = k := by simpa using hlen
      have hpq := pc_or hq (fol_not hfq)
      obtain ⟨b1, b2, b3, b4⟩ := tour_ok hc h0 h10 k (s ||| 2 ^ q) q (or_lt hs hq) hq (by omega)
      have hm := (home_min hc h0 h10 hs hi hne).1 q hq hfq
      have h4 := (b4 l hok hlen').1
      refine ⟨by rw [lenT]; omega, fun heq => ?_⟩
      rw [lenT] at heq
      have hq1 : cst d i q + home n d (s ||| 2 ^ q) q = home n d s i := by omega
      have hjq : j ≤ q := by
        refine Nat.le_of_not_lt fun hlt => ?_
        have hn := List.find?_range_eq_some.1 hp
        have := hn.2.2 q hlt
        simp [hfq, hq1] at this
      rw [cmpN]
      by_cases e : j = q
      · subst e
        rw [if_neg (by omega), if_neg (by omega)]
        exact (a4 l hok hlen').2 (by omega)
      · rw [if_pos (by omega)]; omega

structure Tried (n : Nat) (d : Rows2) (s i : Nat) (len lim0 : Int) (l : List Nat) (k : Nat) (j : Nat) (L : Int) (b : List Int) : Prop where
  le : L ≤ lim0
  all : ∀ q, q < j → fol [] s q = true → L ≤ len + (cst d i q + home n d (s ||| 2 ^ q) q)
  ex : (L = lim0 ∧ b = []) ∨ (L < lim0 ∧ ∃ q, q < j ∧ fol [] s q = true ∧ len + (cst d i q + home n d (s ||| 2 ^ q) q) = L ∧ (∀ p, p < q → fol [] s p = true → L < len + (cst d i p + home n d (s ||| 2 ^ p) p)) ∧ b = (l ++ q :: restT n d k (s ||| 2 ^ q) q).map Int.ofNat)
theorem Tried.zero {n : Nat} {d : Rows2} {s i : Nat} {len lim0 : Int} {l : List Nat} {k : Nat} : Tried n d s i len lim0 l k 0 lim0 [] := ⟨Int.le_refl _, fun q h => by omega, .inl ⟨rfl, rfl⟩⟩
theorem Tried.skip {n : Nat} {d : Rows2} {s i : Nat} {len lim0 : Int} {l : List Nat} {k j : Nat} {L : Int} {b : List Int} (h : Tried n d s i len lim0 l k j L b) (hs : fol [] s j = true → L ≤ len + (cst d i j + home n d (s ||| 2 ^ j) j)) : Tried n d s i len lim0 l k (j + 1) L b := by
  refine ⟨h.le, fun q hq hf => ?_, ?_⟩
  · by_cases e : q = j
    · subst e; exact hs hf
    · exact h.all q (by omega) hf
  · rcases h.ex with hh | ⟨h1, q, h2, h3, h4, h5, h6⟩
    · exact .inl hh
    · exact .inr ⟨h1, q, by omega, h3, h4, h5, h6⟩
theorem Tried.take {n : Nat} {d : Rows2} {s i : Nat} {len lim0 : Int} {l : List Nat} {k j : Nat} {L : Int} {b : List Int} (h : Tried n d s i len lim0 l k j L b) (hf : fol [] s j = true) (hlt : len + (cst d i j + home n d (s ||| 2 ^ j) j) < L) :
    Tried n d s i len lim0 l k (j + 1) (len + (cst d i j + home n d (s ||| 2 ^ j) j)) ((l ++ j :: restT n d k (s ||| 2 ^ j) j).map Int.ofNat) := by
  refine ⟨by have := h.le; omega, fun q hq hfq => ?_, .inr ⟨by have := h.le; omega, j, by omega, hf, rfl, fun p hp hfp => ?_, rfl⟩⟩
  · by_cases e : q = j
    · subst e; exact Int.le_refl _
    · have := h.all q (by omega) hfq; omega
  · have := h.all p hp hfp; omega
theorem Tried.done {n : Nat} {d : Rows2} {s i : Nat} {len lim0 : Int} {l : List Nat} {k : Nat} {L : Int} {b : List Int} (hc : Costs n d) (h0 : 0 < n) (h10 : n ≤ 10) (hs : s < 2 ^ n) (hi : i < n) (hne : s ≠ 2 ^ n - 1) (h : Tried n d s i len lim0 l k n L b) :
    (len + home n d s i < lim0 ∧ L = len + home n d s i ∧ b = (l ++ restT n d (k + 1) s i).map Int.ofNat) ∨ (lim0 ≤ len + home n d s i ∧ L = lim0 ∧ b = []) := by
  obtain ⟨hmin, q0, hq0, hf0, he0⟩ := home_min hc h0 h10 hs hi hne
  have hL := h.all q0 hq0 hf0
  rcases h.ex with ⟨h1, h2⟩ | ⟨h1, q, hq, hf, he, hfirst, hb⟩
  · exact .inr ⟨by omega, h1, h2⟩
  · have hm := hmin q hq hf
    have e : L = len + home n d s i := by omega
    refine .inl ⟨by omega, e, ?_⟩
    have hp : pickT n d s i = some q := by
      refine List.find?_range_eq_some.2 ⟨?_, List.mem_range.2 hq, fun p hp => ?_⟩
      · rw [hf, Bool.true_and]; exact decide_eq_true (by omega)
      · cases hfp : fol [] s p with
        | false => rfl
        | true =>
          have := hfirst p hp hfp
          simp; omega
    rw [hb, restT, hp]

end Go.Proofs.YtgeahmmepfmcoaaDoor
