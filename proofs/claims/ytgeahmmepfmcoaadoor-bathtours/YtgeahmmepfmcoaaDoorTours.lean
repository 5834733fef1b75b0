/- parts that the proof of BathTours uses -/
import Derived.Test.YtgeahmmepfmcoaaDoorBest
namespace Go.Proofs.YtgeahmmepfmcoaaDoor
open Go Go.RowKit L
set_option linter.unusedVariables false
set_option linter.unusedSimpArgs false

theorem endO_bit (j : Nat) : ∀ (l : List Nat) (s : Nat), (endO s l).testBit j = (s.testBit j || l.any (· == j))
  | [], s => by simp [endO]
  | x :: l, s => by
    show (endO (s ||| 2 ^ x) l).testBit j = _
    rw [endO_bit j l, or_bit, List.any_cons, Bool.or_assoc]; rfl
def lastN (l : List Nat) : Nat := l.getD (l.length - 1) 0
theorem lastN_app (l : List Nat) (j : Nat) : lastN (l ++ [j]) = j := by simp [lastN]
def toursR (d : Rows2) (l : List Nat) (len lim : Int) : List Int × Int := if len + home d.length d (endO 0 l) (lastN l) < lim then ((l ++ restT d.length d (d.length - l.length) (endO 0 l) (lastN l)).map Int.ofNat, len + home d.length d (endO 0 l) (lastN l)) else ([], lim)
structure TIn (d : Rows2) (l : List Nat) (len lim : Int) : Prop where
  ok : okO d.length [] 0 l = true
  ne : 1 ≤ l.length
  ln : l.length ≤ d.length
  len0 : 0 ≤ len
  len1 : len ≤ 1000 * l.length
  lim0 : 0 ≤ lim
  lim1 : lim ≤ 1099511627776
def TOut (d : Rows2) (l : List Nat) (len lim : Int) (AB : Option Addr) (v : Value) (D : List Ent) : Prop := ∃ A' c', v = .tuple #[.slice A' (toursR d l len lim).1.length c', .int .i64 (toursR d l len lim).2] ∧ (Rds D A' (I (toursR d l len lim).1) ∨ (A' = AB ∧ (toursR d l len lim).1 = l.map Int.ofNat))
theorem TIn.last {d : Rows2} {l : List Nat} {len lim : Int} (h : TIn d l len lim) : lastN l < d.length := okO_lt _ _ h.ok _ (getD_mem (by have := h.ne; omega))
theorem full_yes {n : Nat} {l : List Nat} (hl : l.length = n) (h : okO n [] 0 l = true) : endO 0 l = 2 ^ n - 1 := by
  have h1 := okO_pc l 0 (Nat.pow_pos (by decide)) h
  rw [pc_zero] at h1
  exact (pc_full h1.2).1 (by omega)
theorem home_full {n : Nat} {d : Rows2} {l : List Nat} (hl : l.length = n) (h : okO n [] 0 l = true) (i : Nat) : home n d (endO 0 l) i = cst d i 0 := by
  rw [full_yes hl h, home_eq (by have := Nat.pow_pos (n := n) (show 0 < 2 by decide); omega), if_pos rfl]
theorem toursR_full_y {d : Rows2} {l : List Nat} {len lim : Int} (hl : l.length = d.length) (h : okO d.length [] 0 l = true) (hlt : len + (d.getD (lastN l) []).getD 0 0 < lim) : toursR d l len lim = (l.map Int.ofNat, len + (d.getD (lastN l) []).getD 0 0) := by
  have e := home_full (d := d) hl h (lastN l)
  unfold cst at e
  rw [toursR, e, if_pos hlt, hl, Nat.sub_self, restT, List.append_nil]
theorem toursR_full_n {d : Rows2} {l : List Nat} {len lim : Int} (hl : l.length = d.length) (h : okO d.length [] 0 l = true) (hlt : ¬ len + (d.getD (lastN l) []).getD 0 0 < lim) : toursR d l len lim = ([], lim) := by
  have e := home_full (d := d) hl h (lastN l)
  unfold cst at e
  rw [toursR, e, if_neg hlt]
theorem toursR_end {d : Rows2} {l : List Nat} {len lim L : Int} {b : List Int} {k : Nat} (hd : DP d) (hi : TIn d l len lim) (hk : l.length + (k + 1) = d.length) (h : Tried d.length d (endO 0 l) (lastN l) len lim l k d.length L b) : toursR d l len lim = (b, L) := by
  have h9 := hd.n9
  have h3 := hd.n3
  obtain ⟨f1, f2⟩ := full_no rfl (show l.length < d.length by omega) hi.ok
  rcases h.done hd.costs (by omega) (by omega) f1 hi.last f2 with ⟨g1, g2, g3⟩ | ⟨g1, g2, g3⟩
  · rw [toursR, if_pos g1, g2, g3, show d.length - l.length = k + 1 by omega]
  · rw [toursR, if_neg (by omega), g2, g3]
def usedB (l : List Nat) (p j : Nat) : Bool := (l.take p).any (· == j)
theorem used_next {l : List Nat} {p j : Nat} (h : p < l.length) : usedB l (p + 1) j = (usedB l p j || (l.getD p 0 == j)) := by
  unfold usedB
  rw [List.take_succ_eq_append_getElem h, List.any_append]
  simp [h]
theorem used_all {l : List Nat} {p j : Nat} (h : l.length ≤ p) : usedB l p j = (endO 0 l).testBit j := by
  rw [endO_bit, usedB, List.take_of_length_le h]; simp
theorem used_y {l : List Nat} {p j : Nat} (h : p < l.length) (hu : usedB l p j = true) : usedB l (p + 1) j = true := by rw [used_next h, hu]; rfl
theorem used_n {l : List Nat} {p j : Nat} (h : p < l.length) (hu : usedB l p j = false) : decide (((l.getD p 0 : Nat) : Int) = (j : Int)) = usedB l (p + 1) j := by
  rw [used_next h, hu, Bool.false_or]
  by_cases e : l.getD p 0 = j
  · rw [e]; simp
  · rw [decide_eq_false (by omega)]; exact (beq_eq_false_iff_ne.2 e).symm
theorem ofN_lastN {l : List Nat} {n : Nat} (h : l.length = n + 1) : (l.map Int.ofNat).getD n 0 = ((lastN l : Nat) : Int) := by
  rw [ofN_get, lastN, h]; rfl
theorem TIn.next {d : Rows2} {l : List Nat} {len lim L : Int} {j : Nat} (hd : DP d) (h : TIn d l len lim) (hj : j < d.length) (hl : l.length < d.length) (hf : fol [] (endO 0 l) j = true) (h0 : 0 ≤ L) (h1 : L ≤ lim) : TIn d (l ++ [j]) (len + (d.getD (lastN l) []).getD j 0) L := by
  have hc := hd.costs _ _ h.last hj
  unfold cst at hc
  have := h.len0; have := h.len1; have := h.lim1
  exact ⟨ok_step h.ok hj hf, by simp, by simp; omega, by omega, by rw [List.length_append, List.length_singleton]; omega, h0, by omega⟩
theorem toursR_next {d : Rows2} {l : List Nat} {len L : Int} {j k : Nat} (hk : l.length + (k + 1) = d.length) : toursR d (l ++ [j]) (len + (d.getD (lastN l) []).getD j 0) L = if len + (cst d (lastN l) j + home d.length d (endO 0 l ||| 2 ^ j) j) < L then ((l ++ j :: restT d.length d k (endO 0 l ||| 2 ^ j) j).map Int.ofNat, len + (cst d (lastN l) j + home d.length d (endO 0 l ||| 2 ^ j) j)) else ([], L) := by
  rw [toursR, lastN_app, endO_app, List.length_append, List.length_singleton, show d.length - (l.length + 1) = k by omega, List.append_assoc, List.singleton_append, ← Int.add_assoc]; rfl
theorem tin_pos {d : Rows2} {n : Nat} {s i j : Nat} {len L : Int} (hd : DP d) (hs : s < 2 ^ d.length) (hj : j < d.length) (h : L ≤ len + (d.getD i []).getD j 0) : L ≤ len + (cst d i j + home d.length d (s ||| 2 ^ j) j) := by
  have h9 := hd.n9
  have := (home_lim hd.costs (by omega) (by omega) (or_lt hs hj) hj).1
  unfold cst; omega
theorem fol_used {l : List Nat} {p j : Nat} (h : l.length ≤ p) (hu : usedB l p j = false) : fol [] (endO 0 l) j = true := by rw [fol00, ← used_all h, hu]; rfl
theorem fol_free {l : List Nat} {p j : Nat} (h : l.length ≤ p) (hu : usedB l p j = true) (hf : fol [] (endO 0 l) j = true) : False := by
  rw [fol00, ← used_all h, hu] at hf; simp at hf
theorem next_y {R : List Int × Int} {X L : Int} {a : List Int} (h : R = if X < L then (a, X) else ([], L)) (hl : R.2 < L) : X < L ∧ R = (a, X) := by
  by_cases hx : X < L
  · rw [if_pos hx] at h; exact ⟨hx, h⟩
  · rw [if_neg hx] at h; subst h; exact absurd hl (Int.lt_irrefl _)
theorem next_pos {d : Rows2} {l : List Nat} {len lim : Int} {s j : Nat} (hd : DP d) (hi : TIn d l len lim) (hs : s < 2 ^ d.length) (hj : j < d.length) : 0 ≤ len + (cst d (lastN l) j + home d.length d (s ||| 2 ^ j) j) := by
  have h9 := hd.n9
  have := (home_lim hd.costs (by omega) (by omega) (or_lt hs hj) hj).1
  have := (hd.costs _ _ hi.last hj).1
  have := hi.len0
  omega
theorem next_n {R : List Int × Int} {X L : Int} {a : List Int} (h : R = if X < L then (a, X) else ([], L)) (hl : ¬ R.2 < L) : L ≤ X := by
  by_cases hx : X < L
  · rw [if_pos hx] at h; subst h; exact absurd hx hl
  · omega
theorem out_rds {D G : List Ent} {A' q : Option Addr} {R lst : List Int} {X : Ent} (h : Rds D A' (I R) ∨ (A' = q ∧ R = lst)) (hX : Rds [X] q (I lst)) (hD : ∀ x ∈ D, x ∈ G) (hXG : X ∈ G) : Rds G A' (I R) := by
  rcases h with h | ⟨rfl, rfl⟩
  · exact h.mono hD
  · exact hX.mono fun x hx => by simp at hx; subst hx; exact hXG

theorem tours_one (A : Option Addr) (c : Nat) (vs : List Value) (d : Rows2) (hd : DP d) (hl : d.length ≤ 140737488351232) (k : Nat) (ih : ∀ (w : World) (AB : Option Addr) (cB : Nat) (l : List Nat) (len lim : Int), l.length + k = d.length → TIn d l len lim → Mx w A vs d → Rd w AB (I (l.map Int.ofNat)) → Calls Tryd.prog 91 #[.slice A d.length c, .slice AB l.length cB, .int .i64 len, .int .i64 lim] w fun e w' => ∃ v D, e = .returned v ∧ St w D w' ∧ TOut d l len lim AB v D)
  (w : World) (AB : Option Addr) (cB : Nat) (l : List Nat) (len lim : Int) (hk : l.length + (k + 1) = d.length) (hi : TIn d l len lim) (hm : Mx w A vs d) (hr : Rd w AB (I (l.map Int.ofNat))) : Calls Tryd.prog 91 #[.slice A d.length c, .slice AB l.length cB, .int .i64 len, .int .i64 lim] w fun e w' => ∃ v D, e = .returned v ∧ St w D w' ∧ TOut d l len lim AB v D := by
  have h9 := hd.n9
  have h3 := hd.n3
  have hne := hi.ne
  have hlen0 := hi.len0
  have hlen1 := hi.len1
  have hlim0 := hi.lim0
  have hlim1 := hi.lim1
  have hla := hi.last
  have hrl := (hd.row hla).1
  have hcl := (hd.row hla).2
  obtain ⟨Ai, ci, hrowi, hrri⟩ := hm.get (i := lastN l) hla
  obtain ⟨hs1, hs2⟩ := full_no rfl (show l.length < d.length by omega) hi.ok
  refine calls (args := [.slice A d.length c, .slice AB l.length cB, .int .i64 len, .int .i64 lim]) Tryd.func91 rfl Tryd.ntmps91 (Nat.le_of_ble_eq_true rfl) (St.refl w) ?_
  refine J_seq ?_
  refine J_region ?_
  refine V_asg (.n _) rfl rfl ?_   -- 0.0
  refine V_asg (.n _) rfl rfl ?_   -- 0.1
  refine V_sub [(0, _), (1, _), (2, _), (3, _), (8, _), (9, _)] ⟨rfl, rfl, rfl, rfl, rfl, rfl, trivial⟩ ?_
  refine V_nil (.inl rfl) ?_
  refine E_then ?_
  refine J_seq ?_
  refine J_region ?_
  refine V_mov (.n _) rfl rfl ?_   -- 1.0
  refine V_mov (.n _) rfl rfl ?_   -- 1.1
  refine V_len (.n _) Tryd.underlying34 rfl rfl ?_   -- 1.2
  refine V_sub1 (.n _) rfl rfl (wrap_ok (by omega)) rfl ?_   -- 1.3
  obtain ⟨q, hq⟩ : ∃ q, l.length = q + 1 := ⟨l.length - 1, by omega⟩
  have hlq := ofN_lastN hq
  rw [show ((l.length : Nat) : Int) - 1 = (q : Int) by omega]
  first | refine V_ix (.n _) Tryd.underlying34 Tryd.sizeOf3 rfl rfl (by omega) (by omega) rfl ?_ | refine V_ixz (.n _) Tryd.underlying34 Tryd.sizeOf3 rfl rfl (hr.pl (by simp)) (by omega) (by omega) rfl ?_ | refine V_ixz (.n _) Tryd.underlying34 Tryd.sizeOf3 rfl rfl (hm.rd.pl (by rw [hm.len]; omega)) (by omega) (by omega) rfl ?_ | refine V_ixz (.n _) Tryd.underlying34 Tryd.sizeOf3 rfl rfl (hrri.pl (by simp)) (by omega) (by omega) rfl ?_   -- 1.4
  refine V_ldz (.n _) Tryd.isAgg3 rfl hr (I_getN (i := q) (by rw [List.length_map]; omega)) rfl ?_   -- 1.5
  rw [hlq]
  refine V_asg (.n _) rfl rfl ?_   -- 1.6
  refine V_sub [(0, _), (1, _), (2, _), (3, _), (8, _), (9, _), (10, _)] ⟨rfl, rfl, rfl, rfl, rfl, rfl, rfl, trivial⟩ ?_
  refine V_nil (.inl rfl) ?_
  refine E_then ?_
  refine J_seq ?_
  refine J_seq ?_
  refine J_region ?_
  refine V_mov (.n _) rfl rfl ?_   -- 2.0
  refine V_len (.n _) Tryd.underlying34 rfl rfl ?_   -- 2.1
  refine V_mov (.n _) rfl rfl ?_   -- 2.2
  refine V_len (.n _) Tryd.underlying45 rfl rfl ?_   -- 2.3
  refine V_eql (.n _) rfl rfl rfl ?_   -- 2.4
  refine V_sub [(0, _), (1, _), (2, _), (3, _), (8, _), (9, _), (10, _), (28, _)] ⟨rfl, rfl, rfl, rfl, rfl, rfl, rfl, rfl, trivial⟩ ?_
  refine V_nil (.inl rfl) ?_
  refine E_then ?_
  refine J_cond rfl (fun h1 => ?_) (fun h1 => ?_)   -- C0
  · exact absurd h1 (by omega)
  · skip
    refine J_skip ?_
    refine E_then ?_
    refine J_seq ?_
    refine J_region ?_
    refine V_asg (.n _) rfl rfl ?_   -- 7.0
    refine V_sub [(0, _), (1, _), (2, _), (3, _), (8, _), (9, _), (10, _), (11, _), (28, _)] ⟨rfl, rfl, rfl, rfl, rfl, rfl, rfl, rfl, rfl, trivial⟩ ?_
    refine V_nil (.inl rfl) ?_
    refine E_then ?_
    refine J_seq ?_
    refine J_seq ?_
    refine J_region ?_
    refine V_mov (.n _) rfl rfl ?_   -- 8.0
    refine V_len (.n _) Tryd.underlying45 rfl rfl ?_   -- 8.1
    refine V_mov (.n _) rfl rfl ?_   -- 8.2
    refine V_sub [(0, _), (1, _), (2, _), (3, _), (8, _), (9, _), (10, _), (11, _), (28, _), (44, _), (45, _)] ⟨rfl, rfl, rfl, rfl, rfl, rfl, rfl, rfl, rfl, rfl, rfl, trivial⟩ ?_
    refine V_nil (.inl rfl) ?_
    refine E_then ?_
    refine J_block ?_
    -- loop L0
    refine J_loop (X := Nat × Int × List Int × Option Addr × Nat × List Ent) (fun x => [(0, (.slice A d.length c)), (1, (.slice AB l.length cB)), (2, (.int .i64 len)), (3, .int .i64 x.2.1), (8, (.slice none 0 0)), (9, (.int .i64 (0))), (10, (.int .i64 ((lastN l : Nat) : Int))), (11, .slice x.2.2.2.1 (x.2.2.1).length x.2.2.2.2.1), (44, (.int .i64 ((d.length : Nat) : Int))), (45, .int .i64 (x.1 : Nat))]) (fun x => x.2.2.2.2.2) (fun x => x.1 ≤ d.length ∧ 0 ≤ x.2.1 ∧ Tried d.length d (endO 0 l) (lastN l) len lim l k x.1 x.2.1 x.2.2.1 ∧ Rds x.2.2.2.2.2 x.2.2.2.1 (I x.2.2.1)) (fun x => d.length - x.1) (0, lim, [], none, 0, []) (by refine ⟨?_, ?_, ?_, ?_, ?_, ?_, ?_, ?_, ?_, ?_, trivial⟩ <;> first | rfl | exact int_eq (by omega)) (fun w h => h) ?_ ?_
    · exact ⟨Nat.zero_le _, hlim0, Tried.zero, Rds.nil⟩
    · rintro ⟨j, L, bs, Ab, cb, Xs⟩ ⟨hj, hL0, htr, hRb⟩
      dsimp only at hj hL0 htr hRb ⊢
      refine J_seq ?_
      refine J_region ?_
      refine V_lss (.n _) rfl rfl rfl ?_   -- 9.0
      refine V_sub [(0, _), (1, _), (2, _), (3, _), (8, _), (9, _), (10, _), (11, _), (44, _), (45, _), (46, _)] ⟨rfl, rfl, rfl, rfl, rfl, rfl, rfl, rfl, rfl, rfl, rfl, trivial⟩ ?_
      refine V_nil (.inl rfl) ?_
      refine E_then ?_
      refine J_seq ?_
      refine J_cond rfl (fun h2 => ?_) (fun h2 => ?_)   -- C2
      · skip
        refine J_skip ?_
        refine E_then ?_
        refine J_seq ?_
        refine J_block ?_
        refine J_seq ?_
        refine J_region ?_
        refine V_mov (.n _) rfl rfl ?_   -- 10.0
        refine V_asg (.n _) rfl rfl ?_   -- 10.1
        refine V_sub [(0, _), (1, _), (2, _), (3, _), (8, _), (9, _), (10, _), (11, _), (12, _), (44, _), (45, _), (46, _)] ⟨rfl, rfl, rfl, rfl, rfl, rfl, rfl, rfl, rfl, rfl, rfl, rfl, trivial⟩ ?_
        refine V_nil (.inl rfl) ?_
        refine E_then ?_
        refine J_seq ?_
        refine J_region ?_
        refine V_asg (.n _) rfl rfl ?_   -- 11.0
        refine V_sub [(0, _), (1, _), (2, _), (3, _), (8, _), (9, _), (10, _), (11, _), (12, _), (13, _), (44, _), (45, _), (46, _)] ⟨rfl, rfl, rfl, rfl, rfl, rfl, rfl, rfl, rfl, rfl, rfl, rfl, rfl, trivial⟩ ?_
        refine V_nil (.inl rfl) ?_
        refine E_then ?_
        refine J_seq ?_
        refine J_seq ?_
        refine J_region ?_
        refine V_mov (.n _) rfl rfl ?_   -- 12.0
        refine V_len (.n _) Tryd.underlying34 rfl rfl ?_   -- 12.1
        refine V_mov (.n _) rfl rfl ?_   -- 12.2
        refine V_sub [(0, _), (1, _), (2, _), (3, _), (8, _), (9, _), (10, _), (11, _), (12, _), (13, _), (44, _), (45, _), (46, _), (48, _), (49, _), (50, _)] ⟨rfl, rfl, rfl, rfl, rfl, rfl, rfl, rfl, rfl, rfl, rfl, rfl, rfl, rfl, rfl, rfl, trivial⟩ ?_
        refine V_nil (.inl rfl) ?_
        refine E_then ?_
        refine J_block ?_
        -- loop L1
        refine J_loop (X := Nat) (fun p => [(0, (.slice A d.length c)), (1, (.slice AB l.length cB)), (2, (.int .i64 len)), (3, .int .i64 L), (8, (.slice none 0 0)), (9, (.int .i64 (0))), (10, (.int .i64 ((lastN l : Nat) : Int))), (11, .slice Ab (bs).length cb), (12, .int .i64 (j : Nat)), (13, .bool (usedB l p j)), (44, (.int .i64 ((d.length : Nat) : Int))), (45, .int .i64 (j : Nat)), (48, (.slice AB l.length cB)), (49, (.int .i64 ((l.length : Nat) : Int))), (50, .int .i64 (p : Nat))]) (fun p => Xs) (fun p => p ≤ l.length) (fun p => l.length - p) (0) (by refine ⟨?_, ?_, ?_, ?_, ?_, ?_, ?_, ?_, ?_, ?_, ?_, ?_, ?_, ?_, ?_, trivial⟩ <;> first | rfl | exact int_eq (by omega)) (fun w h => h) ?_ ?_
        · exact Nat.zero_le _
        · rintro p hp
          refine J_seq ?_
          refine J_region ?_
          refine V_lss (.n _) rfl rfl rfl ?_   -- 13.0
          refine V_sub [(0, _), (1, _), (2, _), (3, _), (8, _), (9, _), (10, _), (11, _), (12, _), (13, _), (44, _), (45, _), (48, _), (49, _), (50, _), (51, _)] ⟨rfl, rfl, rfl, rfl, rfl, rfl, rfl, rfl, rfl, rfl, rfl, rfl, rfl, rfl, rfl, rfl, trivial⟩ ?_
          refine V_nil (.inl rfl) ?_
          refine E_then ?_
          refine J_seq ?_
          refine J_cond rfl (fun h3 => ?_) (fun h3 => ?_)   -- C3
          · skip
            refine J_skip ?_
            refine E_then ?_
            refine J_seq ?_
            refine J_block ?_
            refine J_seq ?_
            refine J_region ?_
            first | refine V_ix (.n _) Tryd.underlying34 Tryd.sizeOf3 rfl rfl (by omega) (by omega) rfl ?_ | refine V_ixz (.n _) Tryd.underlying34 Tryd.sizeOf3 rfl rfl (hr.pl (by simp)) (by omega) (by omega) rfl ?_ | refine V_ixz (.n _) Tryd.underlying34 Tryd.sizeOf3 rfl rfl (hm.rd.pl (by rw [hm.len]; omega)) (by omega) (by omega) rfl ?_ | refine V_ixz (.n _) Tryd.underlying34 Tryd.sizeOf3 rfl rfl (hrri.pl (by simp)) (by omega) (by omega) rfl ?_   -- 14.0
            refine V_ldz (.n _) Tryd.isAgg3 rfl hr (I_getN (i := p) (by rw [List.length_map]; omega)) rfl ?_   -- 14.1
            rw [ofN_get]
            refine V_asg (.n _) rfl rfl ?_   -- 14.2
            refine V_sub [(0, _), (1, _), (2, _), (3, _), (8, _), (9, _), (10, _), (11, _), (12, _), (13, _), (15, _), (44, _), (45, _), (48, _), (49, _), (50, _), (51, _)] ⟨rfl, rfl, rfl, rfl, rfl, rfl, rfl, rfl, rfl, rfl, rfl, rfl, rfl, rfl, rfl, rfl, rfl, trivial⟩ ?_
            refine V_nil (.inl rfl) ?_
            refine E_then ?_
            refine J_region ?_
            refine V_mov (.n _) rfl rfl ?_   -- 15.0
            refine V_mov (.n _) rfl rfl ?_   -- 15.1
            refine V_splitB 55 rfl (fun h4 => ?_) (fun h4 => ?_)   -- guard 15.1
            · skip
              refine V_pass (.n .p) (1, false) rfl rfl ?_   -- 15.2
              refine V_pass (.n .p) (1, false) rfl rfl ?_   -- 15.3
              refine V_pass (.n .p) (1, false) rfl rfl ?_   -- 15.4
              refine V_pickT (.n _) rfl rfl rfl ?_   -- 15.5
              refine V_asg (.n _) rfl rfl ?_   -- 15.6
              refine V_sub [(0, _), (1, _), (2, _), (3, _), (8, _), (9, _), (10, _), (11, _), (12, _), (13, _), (15, _), (44, _), (45, _), (48, _), (49, _), (50, _), (51, _)] ⟨rfl, rfl, rfl, rfl, rfl, rfl, rfl, rfl, rfl, rfl, rfl, rfl, rfl, rfl, rfl, rfl, rfl, trivial⟩ ?_
              refine V_nil (.inl rfl) ?_
              refine E_blk ?_
              refine E_then ?_
              refine J_region ?_
              refine V_add (.n _) rfl rfl (wrap_ok (by omega)) rfl ?_   -- 16.0
              refine V_mov (.n _) rfl rfl ?_   -- 16.1
              refine V_sub [(0, _), (1, _), (2, _), (3, _), (8, _), (9, _), (10, _), (11, _), (12, _), (13, _), (15, _), (44, _), (45, _), (48, _), (49, _), (50, _), (51, _)] ⟨rfl, rfl, rfl, rfl, rfl, rfl, rfl, rfl, rfl, rfl, rfl, rfl, rfl, rfl, rfl, rfl, rfl, trivial⟩ ?_
              refine V_nil (.inl rfl) ?_
              -- again L1 0
              refine E_again (p + 1) ?_ ?_ ?_ (fun w h => h)
              · omega
              · omega
              · refine ⟨?_, ?_, ?_, ?_, ?_, ?_, ?_, ?_, ?_, ?_, ?_, ?_, ?_, ?_, ?_, trivial⟩ <;> first | rfl | exact int_eq (by omega) | exact bool_eq (used_y (by omega) (by assumption)).symm | exact bool_eq (used_n (by omega) (by assumption))
            · skip
              refine V_go (1, false) rfl ?_
              refine V_mov (.n _) rfl rfl ?_   -- 15.2
              refine V_go (1, false) rfl ?_
              refine V_mov (.n _) rfl rfl ?_   -- 15.3
              refine V_go (1, false) rfl ?_
              refine V_eql (.n _) rfl rfl rfl ?_   -- 15.4
              refine V_pickF (.n _) rfl rfl rfl ?_   -- 15.5
              refine V_asg (.n _) rfl rfl ?_   -- 15.6
              refine V_sub [(0, _), (1, _), (2, _), (3, _), (8, _), (9, _), (10, _), (11, _), (12, _), (13, _), (15, _), (44, _), (45, _), (48, _), (49, _), (50, _), (51, _)] ⟨rfl, rfl, rfl, rfl, rfl, rfl, rfl, rfl, rfl, rfl, rfl, rfl, rfl, rfl, rfl, rfl, rfl, trivial⟩ ?_
              refine V_nil (.inl rfl) ?_
              refine E_blk ?_
              refine E_then ?_
              refine J_region ?_
              refine V_add (.n _) rfl rfl (wrap_ok (by omega)) rfl ?_   -- 16.0
              refine V_mov (.n _) rfl rfl ?_   -- 16.1
              refine V_sub [(0, _), (1, _), (2, _), (3, _), (8, _), (9, _), (10, _), (11, _), (12, _), (13, _), (15, _), (44, _), (45, _), (48, _), (49, _), (50, _), (51, _)] ⟨rfl, rfl, rfl, rfl, rfl, rfl, rfl, rfl, rfl, rfl, rfl, rfl, rfl, rfl, rfl, rfl, rfl, trivial⟩ ?_
              refine V_nil (.inl rfl) ?_
              -- again L1 1
              refine E_again (p + 1) ?_ ?_ ?_ (fun w h => h)
              · omega
              · omega
              · refine ⟨?_, ?_, ?_, ?_, ?_, ?_, ?_, ?_, ?_, ?_, ?_, ?_, ?_, ?_, ?_, trivial⟩ <;> first | rfl | exact int_eq (by omega) | exact bool_eq (used_y (by omega) (by assumption)).symm | exact bool_eq (used_n (by omega) (by assumption))
          · skip
            refine J_exit ?_
            refine E_then_exit ?_
            refine E_lp_exit ?_
            refine E_blk_hit ?_
            refine E_then ?_
            refine J_seq ?_
            refine J_seq ?_
            refine J_region ?_
            refine V_mov (.n _) rfl rfl ?_   -- 17.0
            refine V_mov (.n _) rfl rfl ?_   -- 17.1
            refine V_splitB 62 rfl (fun h5 => ?_) (fun h5 => ?_)   -- guard 17.1
            · skip
              refine V_pass (.n .p) (1, false) rfl rfl ?_   -- 17.2
              refine V_pass (.n .p) (1, false) rfl rfl ?_   -- 17.3
              refine V_pass (.n .p) (1, false) rfl rfl ?_   -- 17.4
              refine V_pass (.n .p) (1, false) rfl rfl ?_   -- 17.5
              refine V_pass (.n .p) (1, false) rfl rfl ?_   -- 17.6
              refine V_pass (.n .p) (1, false) rfl rfl ?_   -- 17.7
              refine V_pass (.n .p) (1, false) rfl rfl ?_   -- 17.8
              refine V_pass (.n .p) (1, false) rfl rfl ?_   -- 17.9
              refine V_pass (.n .p) (1, false) rfl rfl ?_   -- 17.10
              refine V_pass (.n .p) (1, false) rfl rfl ?_   -- 17.11
              refine V_pass (.n .p) (1, false) rfl rfl ?_   -- 17.12
              refine V_pickT (.n _) rfl rfl rfl ?_   -- 17.13
              refine V_sub [(0, _), (1, _), (2, _), (3, _), (8, _), (9, _), (10, _), (11, _), (12, _), (13, _), (44, _), (45, _), (48, _), (49, _), (50, _), (51, _), (74, _)] ⟨rfl, rfl, rfl, rfl, rfl, rfl, rfl, rfl, rfl, rfl, rfl, rfl, rfl, rfl, rfl, rfl, rfl, trivial⟩ ?_
              refine V_nil (.inl rfl) ?_
              refine E_then ?_
              refine J_condT rfl ?_
              refine J_exit ?_
              refine E_then_exit ?_
              refine E_blk_hit ?_
              refine E_then ?_
              refine J_region ?_
              refine V_add (.n _) rfl rfl (wrap_ok (by omega)) rfl ?_   -- 21.0
              refine V_mov (.n _) rfl rfl ?_   -- 21.1
              refine V_sub [(0, _), (1, _), (2, _), (3, _), (8, _), (9, _), (10, _), (11, _), (12, _), (13, _), (44, _), (45, _), (48, _), (49, _), (50, _), (51, _), (74, _)] ⟨rfl, rfl, rfl, rfl, rfl, rfl, rfl, rfl, rfl, rfl, rfl, rfl, rfl, rfl, rfl, rfl, rfl, trivial⟩ ?_
              refine V_nil (.inl rfl) ?_
              -- again L0 0
              refine E_again (X := Nat × Int × List Int × Option Addr × Nat × List Ent) (KI := fun x => [(0, (.slice A d.length c)), (1, (.slice AB l.length cB)), (2, (.int .i64 len)), (3, .int .i64 x.2.1), (8, (.slice none 0 0)), (9, (.int .i64 (0))), (10, (.int .i64 ((lastN l : Nat) : Int))), (11, .slice x.2.2.2.1 (x.2.2.1).length x.2.2.2.2.1), (44, (.int .i64 ((d.length : Nat) : Int))), (45, .int .i64 (x.1 : Nat))]) (GI := fun x => x.2.2.2.2.2) (I := fun x => x.1 ≤ d.length ∧ 0 ≤ x.2.1 ∧ Tried d.length d (endO 0 l) (lastN l) len lim l k x.1 x.2.1 x.2.2.1 ∧ Rds x.2.2.2.2.2 x.2.2.2.1 (I x.2.2.1)) (μ := fun x => d.length - x.1) (x := (j, L, bs, Ab, cb, Xs)) ((j + 1, L, bs, Ab, cb, Xs)) ?_ ?_ ?_ (fun w h => h)
              · show d.length - (j + 1) < d.length - j; omega
              · exact ⟨by dsimp only; omega, hL0, htr.skip (fun hf => (fol_free (p := p) (by omega) (by assumption) hf).elim), hRb⟩
              · refine ⟨?_, ?_, ?_, ?_, ?_, ?_, ?_, ?_, ?_, ?_, trivial⟩ <;> first | rfl | exact int_eq (by omega) | exact int_eq (by dsimp only; omega)
            · have hfj := fol_used (l := l) (p := p) (j := j) (by omega) h5
              refine V_go (1, false) rfl ?_
              refine V_mov (.n _) rfl rfl ?_   -- 17.2
              refine V_go (1, false) rfl ?_
              refine V_mov (.n _) rfl rfl ?_   -- 17.3
              refine V_go (1, false) rfl ?_
              refine V_mov (.n _) rfl rfl ?_   -- 17.4
              refine V_go (1, false) rfl ?_
              first | refine V_ix (.n _) Tryd.underlying45 Tryd.sizeOf34 rfl rfl (by omega) (by omega) rfl ?_ | refine V_ixz (.n _) Tryd.underlying45 Tryd.sizeOf34 rfl rfl (hr.pl (by simp)) (by omega) (by omega) rfl ?_ | refine V_ixz (.n _) Tryd.underlying45 Tryd.sizeOf34 rfl rfl (hm.rd.pl (by rw [hm.len]; omega)) (by omega) (by omega) rfl ?_ | refine V_ixz (.n _) Tryd.underlying45 Tryd.sizeOf34 rfl rfl (hrri.pl (by simp)) (by omega) (by omega) rfl ?_   -- 17.5
              refine V_go (1, false) rfl ?_
              refine V_ldz (.n _) Tryd.isAgg34 rfl hm.rd hrowi rfl ?_   -- 17.6
              refine V_go (1, false) rfl ?_
              refine V_mov (.n _) rfl rfl ?_   -- 17.7
              refine V_go (1, false) rfl ?_
              first | refine V_ix (.n _) Tryd.underlying34 Tryd.sizeOf3 rfl rfl (by omega) (by omega) rfl ?_ | refine V_ixz (.n _) Tryd.underlying34 Tryd.sizeOf3 rfl rfl (hr.pl (by simp)) (by omega) (by omega) rfl ?_ | refine V_ixz (.n _) Tryd.underlying34 Tryd.sizeOf3 rfl rfl (hm.rd.pl (by rw [hm.len]; omega)) (by omega) (by omega) rfl ?_ | refine V_ixz (.n _) Tryd.underlying34 Tryd.sizeOf3 rfl rfl (hrri.pl (by simp)) (by omega) (by omega) rfl ?_   -- 17.8
              refine V_go (1, false) rfl ?_
              refine V_ldz (.n _) Tryd.isAgg3 rfl hrri (I_getN (i := j) (by omega)) rfl ?_   -- 17.9
              have hcj := hcl j (by omega)
              refine V_go (1, false) rfl ?_
              refine V_add (.n _) rfl rfl (wrap_ok (by omega)) rfl ?_   -- 17.10
              refine V_go (1, false) rfl ?_
              refine V_mov (.n _) rfl rfl ?_   -- 17.11
              refine V_go (1, false) rfl ?_
              refine V_geq (.n _) rfl rfl rfl ?_   -- 17.12
              refine V_pickF (.n _) rfl rfl rfl ?_   -- 17.13
              refine V_sub [(0, _), (1, _), (2, _), (3, _), (8, _), (9, _), (10, _), (11, _), (12, _), (13, _), (44, _), (45, _), (48, _), (49, _), (50, _), (51, _), (74, _)] ⟨rfl, rfl, rfl, rfl, rfl, rfl, rfl, rfl, rfl, rfl, rfl, rfl, rfl, rfl, rfl, rfl, rfl, trivial⟩ ?_
              refine V_nil (.inl rfl) ?_
              refine E_then ?_
              refine J_cond rfl (fun h6 => ?_) (fun h6 => ?_)   -- C4
              · skip
                refine J_exit ?_
                refine E_then_exit ?_
                refine E_blk_hit ?_
                refine E_then ?_
                refine J_region ?_
                refine V_add (.n _) rfl rfl (wrap_ok (by omega)) rfl ?_   -- 21.0
                refine V_mov (.n _) rfl rfl ?_   -- 21.1
                refine V_sub [(0, _), (1, _), (2, _), (3, _), (8, _), (9, _), (10, _), (11, _), (12, _), (13, _), (44, _), (45, _), (48, _), (49, _), (50, _), (51, _), (74, _)] ⟨rfl, rfl, rfl, rfl, rfl, rfl, rfl, rfl, rfl, rfl, rfl, rfl, rfl, rfl, rfl, rfl, rfl, trivial⟩ ?_
                refine V_nil (.inl rfl) ?_
                -- again L0 1
                refine E_again (X := Nat × Int × List Int × Option Addr × Nat × List Ent) (KI := fun x => [(0, (.slice A d.length c)), (1, (.slice AB l.length cB)), (2, (.int .i64 len)), (3, .int .i64 x.2.1), (8, (.slice none 0 0)), (9, (.int .i64 (0))), (10, (.int .i64 ((lastN l : Nat) : Int))), (11, .slice x.2.2.2.1 (x.2.2.1).length x.2.2.2.2.1), (44, (.int .i64 ((d.length : Nat) : Int))), (45, .int .i64 (x.1 : Nat))]) (GI := fun x => x.2.2.2.2.2) (I := fun x => x.1 ≤ d.length ∧ 0 ≤ x.2.1 ∧ Tried d.length d (endO 0 l) (lastN l) len lim l k x.1 x.2.1 x.2.2.1 ∧ Rds x.2.2.2.2.2 x.2.2.2.1 (I x.2.2.1)) (μ := fun x => d.length - x.1) (x := (j, L, bs, Ab, cb, Xs)) ((j + 1, L, bs, Ab, cb, Xs)) ?_ ?_ ?_ (fun w h => h)
                · show d.length - (j + 1) < d.length - j; omega
                · exact ⟨by dsimp only; omega, hL0, htr.skip (fun hf => tin_pos (n := 0) hd hs1 (by omega) (by omega)), hRb⟩
                · refine ⟨?_, ?_, ?_, ?_, ?_, ?_, ?_, ?_, ?_, ?_, trivial⟩ <;> first | rfl | exact int_eq (by omega) | exact int_eq (by dsimp only; omega)
              · skip
                refine J_skip ?_
                refine E_then ?_
                refine J_seq ?_
                refine J_drawG [0, 0, 0, 1, 0, 1, 2, 0, 0, 0, 1, 2, 0, 3, 4, 5, 0, 6, 7, 8, 10, 9, 11] (Gs := _) (cl := [.p, (.u fun v D => ∃ b, v = .slice (some ⟨b, 0, none⟩) 0 0 ∧ D = [.c b 3 []]), .p, (.u fun v' D => ∃ X', D = [X'] ∧ Own 3 1 v' l.length (I (l.map Int.ofNat)) X'), .p, (.u fun v D => ∃ b, v = .slice (some ⟨b, 0, none⟩) 1 1 ∧ D = [.c b 3 [.int .i64 (j : Nat)]]), .e, .p, .p, .p, .p, .r, .p, .p, .r, .p, .p, .e, .p, .p, .p, .p, .p]) (by kernel_rfl) (fun _ _ h => h) ?_
                refine V_mov (.s _ _ _) rfl rfl ?_   -- 18.0
                refine V_litU (.s _ _ _) Tryd.underlying34 Tryd.sizeOf3 Tryd.zeroValue3 .nil rfl rfl rfl (fun _ _ h => h.sublist (by (try simp only [List.cons_append, List.nil_append]); repeat (first | exact List.Sublist.refl _ | apply List.Sublist.cons | apply List.sublist_append_of_sublist_right))) (fun b77 => ?_)   -- 18.1
                refine V_mov (.s _ _ _) rfl rfl ?_   -- 18.2
                refine V_appU (z := 1) (ms := I (l.map Int.ofNat)) (.s _ _ _) Tryd.underlying34 Tryd.underlying34 Tryd.typeInfo3 rfl rfl rfl rfl rfl rfl rfl (fun w1 hw1 => hr.keep hw1) (by simp) (I_one _) (by omega) rfl (fun _ _ h => h.sublist (by (try simp only [List.cons_append, List.nil_append]); repeat (first | exact List.Sublist.refl _ | apply List.Sublist.cons | apply List.sublist_append_of_sublist_right))) ?_
                intro vb Xb hown
                refine V_mov (.s _ _ _) rfl rfl ?_   -- 18.4
                refine V_litU (.s _ _ _) Tryd.underlying34 Tryd.sizeOf3 Tryd.zeroValue3 (Parts.cons (v := .int .i64 (j : Nat)) (us := [.int .i64 (j : Nat)]) rfl rfl rfl .nil) rfl rfl rfl (fun _ _ h => h.sublist (by (try simp only [List.cons_append, List.nil_append]); repeat (first | exact List.Sublist.refl _ | apply List.Sublist.cons | apply List.sublist_append_of_sublist_right))) (fun b81 => ?_)   -- 18.5
                refine V_appE (z := 1) (ms := I [(j : Int)]) (X := Xb) (G1 := [.c b81 3 [.int .i64 (j : Nat)]]) (.s _ _ _) Tryd.underlying34 Tryd.underlying34 Tryd.typeInfo3 rfl rfl rfl rfl rfl rfl rfl rfl hown (fun w1 hw1 => Rd.own hw1 (t := 3) (List.Mem.head _)) (by simp) (I_one _) (by omega) rfl (fun X1 => (fun _ _ h => h.sublist (by (try simp only [List.cons_append, List.nil_append]); repeat (first | exact List.Sublist.refl _ | apply List.Sublist.cons | apply List.sublist_append_of_sublist_right)))) ?_
                intro v2 X2 hown2
                rw [show I (l.map Int.ofNat) ++ I [(j : Int)] = I ((l ++ [j]).map Int.ofNat) from ofN_snoc l j, show l.length + 1 = (l ++ [j]).length by simp] at hown2
                obtain ⟨q1, q2, rfl, _⟩ := hown2.is
                refine V_mov (.s _ _ _) rfl rfl ?_   -- 18.7
                refine V_mov (.s _ _ _) rfl rfl ?_   -- 18.8
                refine V_mov (.s _ _ _) rfl rfl ?_   -- 18.9
                first | refine V_ix (.s _ _ _) Tryd.underlying45 Tryd.sizeOf34 rfl rfl (by omega) (by omega) rfl ?_ | refine V_ixz (.s _ _ _) Tryd.underlying45 Tryd.sizeOf34 rfl rfl (hr.pl (by simp)) (by omega) (by omega) rfl ?_ | refine V_ixz (.s _ _ _) Tryd.underlying45 Tryd.sizeOf34 rfl rfl (hm.rd.pl (by rw [hm.len]; omega)) (by omega) (by omega) rfl ?_ | refine V_ixz (.s _ _ _) Tryd.underlying45 Tryd.sizeOf34 rfl rfl (hrri.pl (by simp)) (by omega) (by omega) rfl ?_   -- 18.10
                refine V_ldz (.s _ _ _) Tryd.isAgg34 rfl hm.rd hrowi rfl ?_   -- 18.11
                refine V_mov (.s _ _ _) rfl rfl ?_   -- 18.12
                first | refine V_ix (.s _ _ _) Tryd.underlying34 Tryd.sizeOf3 rfl rfl (by omega) (by omega) rfl ?_ | refine V_ixz (.s _ _ _) Tryd.underlying34 Tryd.sizeOf3 rfl rfl (hr.pl (by simp)) (by omega) (by omega) rfl ?_ | refine V_ixz (.s _ _ _) Tryd.underlying34 Tryd.sizeOf3 rfl rfl (hm.rd.pl (by rw [hm.len]; omega)) (by omega) (by omega) rfl ?_ | refine V_ixz (.s _ _ _) Tryd.underlying34 Tryd.sizeOf3 rfl rfl (hrri.pl (by simp)) (by omega) (by omega) rfl ?_   -- 18.13
                refine V_ldz (.s _ _ _) Tryd.isAgg3 rfl hrri (I_getN (i := j) (by omega)) rfl ?_   -- 18.14
                refine V_add (.s _ _ _) rfl rfl (wrap_ok (by omega)) rfl ?_   -- 18.15
                refine V_mov (.s _ _ _) rfl rfl ?_   -- 18.16
                refine V_call (post := fun v D => TOut d (l ++ [j]) (len + (d.getD (lastN l) []).getD j 0) L q1 v D) (.s _ _ _) Tryd.call91 (.cons rfl (.cons rfl (.cons rfl (.cons rfl .nil)))) (fun w1 hw1 => ih w1 q1 q2 (l ++ [j]) (len + (d.getD (lastN l) []).getD j 0) L (by rw [List.length_append, List.length_singleton]; omega) (hi.next hd (by omega) (by omega) hfj hL0 htr.le) (hm.keep hw1) (hown2.rd (hw1.has _ (by repeat (first | exact List.Mem.head _ | assumption | apply List.Mem.tail | apply List.mem_append_right))))) rfl (fun _ _ h => h.sublist (by (try simp only [List.cons_append, List.nil_append]); repeat (first | exact List.Sublist.refl _ | apply List.Sublist.cons | apply List.sublist_append_of_sublist_right))) ?_
                rintro v D ⟨A', c', rfl, hout⟩
                have htn := toursR_next (d := d) (l := l) (len := len) (L := L) (j := j) (k := k) hk
                generalize toursR d (l ++ [j]) (len + (d.getD (lastN l) []).getD j 0) L = R at htn hout ⊢
                refine V_mov (.s _ _ _) rfl rfl ?_   -- 18.18
                refine V_ext (.s _ _ _) rfl rfl rfl ?_   -- 18.19
                refine V_ext (.s _ _ _) rfl rfl rfl ?_   -- 18.20
                refine V_asg (.s _ _ _) rfl rfl ?_   -- 18.21
                refine V_asg (.s _ _ _) rfl rfl ?_   -- 18.22
                refine V_sub [(0, _), (1, _), (2, _), (3, _), (8, _), (9, _), (10, _), (11, _), (12, _), (13, _), (16, _), (17, _), (44, _), (45, _), (48, _), (49, _), (50, _), (51, _), (74, _)] ⟨rfl, rfl, rfl, rfl, rfl, rfl, rfl, rfl, rfl, rfl, rfl, rfl, rfl, rfl, rfl, rfl, rfl, rfl, rfl, trivial⟩ ?_
                refine V_nil (.inr ⟨_, rfl⟩) ?_
                refine E_then ?_
                refine J_seq ?_
                refine J_region ?_
                refine V_mov (.n _) rfl rfl ?_   -- 19.0
                refine V_mov (.n _) rfl rfl ?_   -- 19.1
                refine V_lss (.n _) rfl rfl rfl ?_   -- 19.2
                refine V_sub [(0, _), (1, _), (2, _), (3, _), (8, _), (9, _), (10, _), (11, _), (12, _), (13, _), (16, _), (17, _), (44, _), (45, _), (48, _), (49, _), (50, _), (51, _), (74, _), (98, _)] ⟨rfl, rfl, rfl, rfl, rfl, rfl, rfl, rfl, rfl, rfl, rfl, rfl, rfl, rfl, rfl, rfl, rfl, rfl, rfl, rfl, trivial⟩ ?_
                refine V_nil (.inl rfl) ?_
                refine E_then ?_
                refine J_cond rfl (fun h7 => ?_) (fun h7 => ?_)   -- C5
                · obtain ⟨hlt, rfl⟩ := next_y htn h7
                  have hL1 := next_pos hd hi hs1 (show j < d.length by omega)
                  refine J_region ?_
                  refine V_mov (.n _) rfl rfl ?_   -- 20.0
                  refine V_mov (.n _) rfl rfl ?_   -- 20.1
                  refine V_asg (.n _) rfl rfl ?_   -- 20.2
                  refine V_asg (.n _) rfl rfl ?_   -- 20.3
                  refine V_sub [(0, _), (1, _), (2, _), (3, _), (8, _), (9, _), (10, _), (11, _), (12, _), (13, _), (16, _), (17, _), (44, _), (45, _), (48, _), (49, _), (50, _), (51, _), (74, _), (98, _)] ⟨rfl, rfl, rfl, rfl, rfl, rfl, rfl, rfl, rfl, rfl, rfl, rfl, rfl, rfl, rfl, rfl, rfl, rfl, rfl, rfl, trivial⟩ ?_
                  refine V_nil (.inl rfl) ?_
                  refine E_blk ?_
                  refine E_then ?_
                  refine J_region ?_
                  refine V_add (.n _) rfl rfl (wrap_ok (by omega)) rfl ?_   -- 21.0
                  refine V_mov (.n _) rfl rfl ?_   -- 21.1
                  refine V_sub [(0, _), (1, _), (2, _), (3, _), (8, _), (9, _), (10, _), (11, _), (12, _), (13, _), (16, _), (17, _), (44, _), (45, _), (48, _), (49, _), (50, _), (51, _), (74, _), (98, _)] ⟨rfl, rfl, rfl, rfl, rfl, rfl, rfl, rfl, rfl, rfl, rfl, rfl, rfl, rfl, rfl, rfl, rfl, rfl, rfl, rfl, trivial⟩ ?_
                  refine V_nil (.inl rfl) ?_
                  -- again L0 2
                  refine E_again (X := Nat × Int × List Int × Option Addr × Nat × List Ent) (KI := fun x => [(0, (.slice A d.length c)), (1, (.slice AB l.length cB)), (2, (.int .i64 len)), (3, .int .i64 x.2.1), (8, (.slice none 0 0)), (9, (.int .i64 (0))), (10, (.int .i64 ((lastN l : Nat) : Int))), (11, .slice x.2.2.2.1 (x.2.2.1).length x.2.2.2.2.1), (44, (.int .i64 ((d.length : Nat) : Int))), (45, .int .i64 (x.1 : Nat))]) (GI := fun x => x.2.2.2.2.2) (I := fun x => x.1 ≤ d.length ∧ 0 ≤ x.2.1 ∧ Tried d.length d (endO 0 l) (lastN l) len lim l k x.1 x.2.1 x.2.2.1 ∧ Rds x.2.2.2.2.2 x.2.2.2.1 (I x.2.2.1)) (μ := fun x => d.length - x.1) (x := (j, L, bs, Ab, cb, Xs)) ((j + 1, len + (cst d (lastN l) j + home d.length d (endO 0 l ||| 2 ^ j) j), (l ++ j :: restT d.length d k (endO 0 l ||| 2 ^ j) j).map Int.ofNat, A', c', _)) ?_ ?_ ?_ (fun w h => h)
                  · show d.length - (j + 1) < d.length - j; omega
                  · exact ⟨by dsimp only; omega, hL1, htr.take hfj hlt, out_rds hout (own_rds hown2) (by intro x hx; simp [hx]) (by simp)⟩
                  · refine ⟨?_, ?_, ?_, ?_, ?_, ?_, ?_, ?_, ?_, ?_, trivial⟩ <;> first | rfl | exact int_eq (by omega) | exact int_eq (by dsimp only; omega)
                · have hge := next_n htn h7
                  refine J_skip ?_
                  refine E_blk ?_
                  refine E_then ?_
                  refine J_region ?_
                  refine V_add (.n _) rfl rfl (wrap_ok (by omega)) rfl ?_   -- 21.0
                  refine V_mov (.n _) rfl rfl ?_   -- 21.1
                  refine V_sub [(0, _), (1, _), (2, _), (3, _), (8, _), (9, _), (10, _), (11, _), (12, _), (13, _), (16, _), (17, _), (44, _), (45, _), (48, _), (49, _), (50, _), (51, _), (74, _), (98, _)] ⟨rfl, rfl, rfl, rfl, rfl, rfl, rfl, rfl, rfl, rfl, rfl, rfl, rfl, rfl, rfl, rfl, rfl, rfl, rfl, rfl, trivial⟩ ?_
                  refine V_nil (.inl rfl) ?_
                  -- again L0 3
                  refine E_again (X := Nat × Int × List Int × Option Addr × Nat × List Ent) (KI := fun x => [(0, (.slice A d.length c)), (1, (.slice AB l.length cB)), (2, (.int .i64 len)), (3, .int .i64 x.2.1), (8, (.slice none 0 0)), (9, (.int .i64 (0))), (10, (.int .i64 ((lastN l : Nat) : Int))), (11, .slice x.2.2.2.1 (x.2.2.1).length x.2.2.2.2.1), (44, (.int .i64 ((d.length : Nat) : Int))), (45, .int .i64 (x.1 : Nat))]) (GI := fun x => x.2.2.2.2.2) (I := fun x => x.1 ≤ d.length ∧ 0 ≤ x.2.1 ∧ Tried d.length d (endO 0 l) (lastN l) len lim l k x.1 x.2.1 x.2.2.1 ∧ Rds x.2.2.2.2.2 x.2.2.2.1 (I x.2.2.1)) (μ := fun x => d.length - x.1) (x := (j, L, bs, Ab, cb, Xs)) ((j + 1, L, bs, Ab, cb, _)) ?_ ?_ ?_ (fun w h => h)
                  · show d.length - (j + 1) < d.length - j; omega
                  · exact ⟨by dsimp only; omega, hL0, htr.skip (fun hf => hge), hRb.mono (by intro x hx; simp [hx])⟩
                  · refine ⟨?_, ?_, ?_, ?_, ?_, ?_, ?_, ?_, ?_, ?_, trivial⟩ <;> first | rfl | exact int_eq (by omega) | exact int_eq (by dsimp only; omega)
      · skip
        refine J_exit ?_
        refine E_then_exit ?_
        refine E_lp_exit ?_
        refine E_blk_hit ?_
        refine E_then ?_
        refine J_seq ?_
        refine J_region ?_
        refine V_mov (.n _) rfl rfl ?_   -- 22.0
        refine V_mov (.n _) rfl rfl ?_   -- 22.1
        refine V_asg (.n _) rfl rfl ?_   -- 22.2
        refine V_asg (.n _) rfl rfl ?_   -- 22.3
        refine V_sub [(0, _), (1, _), (2, _), (3, _), (8, _), (9, _), (10, _), (11, _), (44, _), (45, _), (46, _)] ⟨rfl, rfl, rfl, rfl, rfl, rfl, rfl, rfl, rfl, rfl, rfl, trivial⟩ ?_
        refine V_nil (.inl rfl) ?_
        refine E_then ?_
        refine J_ret ?_
        -- return R0
        refine E_ret2 Tryd.results91 rfl rfl (fun w hw => ?_)
        obtain rfl : j = d.length := by omega
        have hte := toursR_end hd hi hk htr
        exact ⟨_, Xs, rfl, hw, Ab, cb, by rw [hte], .inl (by rw [hte]; exact hRb)⟩

theorem tours_full (A : Option Addr) (c : Nat) (vs : List Value) (d : Rows2) (hd : DP d) (hl : d.length ≤ 140737488351232)
  (w : World) (AB : Option Addr) (cB : Nat) (l : List Nat) (len lim : Int) (hk : l.length = d.length) (hi : TIn d l len lim) (hm : Mx w A vs d) (hr : Rd w AB (I (l.map Int.ofNat))) : Calls Tryd.prog 91 #[.slice A d.length c, .slice AB l.length cB, .int .i64 len, .int .i64 lim] w fun e w' => ∃ v D, e = .returned v ∧ St w D w' ∧ TOut d l len lim AB v D := by
  have h9 := hd.n9
  have h3 := hd.n3
  have hne := hi.ne
  have hlen0 := hi.len0
  have hlen1 := hi.len1
  have hlim0 := hi.lim0
  have hlim1 := hi.lim1
  have hla := hi.last
  have hrl := (hd.row hla).1
  have hcl := (hd.row hla).2
  obtain ⟨Ai, ci, hrowi, hrri⟩ := hm.get (i := lastN l) hla
  refine calls (args := [.slice A d.length c, .slice AB l.length cB, .int .i64 len, .int .i64 lim]) Tryd.func91 rfl Tryd.ntmps91 (Nat.le_of_ble_eq_true rfl) (St.refl w) ?_
  refine J_seq ?_
  refine J_region ?_
  refine V_asg (.n _) rfl rfl ?_   -- 0.0
  refine V_asg (.n _) rfl rfl ?_   -- 0.1
  refine V_sub [(0, _), (1, _), (2, _), (3, _), (8, _), (9, _)] ⟨rfl, rfl, rfl, rfl, rfl, rfl, trivial⟩ ?_
  refine V_nil (.inl rfl) ?_
  refine E_then ?_
  refine J_seq ?_
  refine J_region ?_
  refine V_mov (.n _) rfl rfl ?_   -- 1.0
  refine V_mov (.n _) rfl rfl ?_   -- 1.1
  refine V_len (.n _) Tryd.underlying34 rfl rfl ?_   -- 1.2
  refine V_sub1 (.n _) rfl rfl (wrap_ok (by omega)) rfl ?_   -- 1.3
  obtain ⟨q, hq⟩ : ∃ q, l.length = q + 1 := ⟨l.length - 1, by omega⟩
  have hlq := ofN_lastN hq
  rw [show ((l.length : Nat) : Int) - 1 = (q : Int) by omega]
  first | refine V_ix (.n _) Tryd.underlying34 Tryd.sizeOf3 rfl rfl (by omega) (by omega) rfl ?_ | refine V_ixz (.n _) Tryd.underlying34 Tryd.sizeOf3 rfl rfl (hr.pl (by simp)) (by omega) (by omega) rfl ?_ | refine V_ixz (.n _) Tryd.underlying34 Tryd.sizeOf3 rfl rfl (hm.rd.pl (by rw [hm.len]; omega)) (by omega) (by omega) rfl ?_ | refine V_ixz (.n _) Tryd.underlying34 Tryd.sizeOf3 rfl rfl (hrri.pl (by simp)) (by omega) (by omega) rfl ?_   -- 1.4
  refine V_ldz (.n _) Tryd.isAgg3 rfl hr (I_getN (i := q) (by rw [List.length_map]; omega)) rfl ?_   -- 1.5
  rw [hlq]
  refine V_asg (.n _) rfl rfl ?_   -- 1.6
  refine V_sub [(0, _), (1, _), (2, _), (3, _), (8, _), (9, _), (10, _)] ⟨rfl, rfl, rfl, rfl, rfl, rfl, rfl, trivial⟩ ?_
  refine V_nil (.inl rfl) ?_
  refine E_then ?_
  refine J_seq ?_
  refine J_seq ?_
  refine J_region ?_
  refine V_mov (.n _) rfl rfl ?_   -- 2.0
  refine V_len (.n _) Tryd.underlying34 rfl rfl ?_   -- 2.1
  refine V_mov (.n _) rfl rfl ?_   -- 2.2
  refine V_len (.n _) Tryd.underlying45 rfl rfl ?_   -- 2.3
  refine V_eql (.n _) rfl rfl rfl ?_   -- 2.4
  refine V_sub [(0, _), (1, _), (2, _), (3, _), (8, _), (9, _), (10, _), (28, _)] ⟨rfl, rfl, rfl, rfl, rfl, rfl, rfl, rfl, trivial⟩ ?_
  refine V_nil (.inl rfl) ?_
  refine E_then ?_
  refine J_cond rfl (fun h1 => ?_) (fun h1 => ?_)   -- C0
  · skip
    refine J_seq ?_
    refine J_seq ?_
    refine J_region ?_
    refine V_mov (.n _) rfl rfl ?_   -- 3.0
    refine V_mov (.n _) rfl rfl ?_   -- 3.1
    refine V_mov (.n _) rfl rfl ?_   -- 3.2
    first | refine V_ix (.n _) Tryd.underlying45 Tryd.sizeOf34 rfl rfl (by omega) (by omega) rfl ?_ | refine V_ixz (.n _) Tryd.underlying45 Tryd.sizeOf34 rfl rfl (hr.pl (by simp)) (by omega) (by omega) rfl ?_ | refine V_ixz (.n _) Tryd.underlying45 Tryd.sizeOf34 rfl rfl (hm.rd.pl (by rw [hm.len]; omega)) (by omega) (by omega) rfl ?_ | refine V_ixz (.n _) Tryd.underlying45 Tryd.sizeOf34 rfl rfl (hrri.pl (by simp)) (by omega) (by omega) rfl ?_   -- 3.3
    refine V_ldz (.n _) Tryd.isAgg34 rfl hm.rd hrowi rfl ?_   -- 3.4
    first | refine V_ix (.n _) Tryd.underlying34 Tryd.sizeOf3 rfl rfl (by omega) (by omega) rfl ?_ | refine V_ixz (.n _) Tryd.underlying34 Tryd.sizeOf3 rfl rfl (hr.pl (by simp)) (by omega) (by omega) rfl ?_ | refine V_ixz (.n _) Tryd.underlying34 Tryd.sizeOf3 rfl rfl (hm.rd.pl (by rw [hm.len]; omega)) (by omega) (by omega) rfl ?_ | refine V_ixz (.n _) Tryd.underlying34 Tryd.sizeOf3 rfl rfl (hrri.pl (by simp)) (by omega) (by omega) rfl ?_   -- 3.5
    refine V_ldz (.n _) Tryd.isAgg3 rfl hrri (I_getN (i := 0) (by omega)) rfl ?_   -- 3.6
    have hcj := hcl 0 (by omega)
    refine V_add (.n _) rfl rfl (wrap_ok (by omega)) rfl ?_   -- 3.7
    refine V_asg (.n _) rfl rfl ?_   -- 3.8
    refine V_sub [(0, _), (1, _), (2, _), (3, _), (8, _), (9, _), (10, _), (28, _)] ⟨rfl, rfl, rfl, rfl, rfl, rfl, rfl, rfl, trivial⟩ ?_
    refine V_nil (.inl rfl) ?_
    refine E_then ?_
    refine J_seq ?_
    refine J_region ?_
    refine V_mov (.n _) rfl rfl ?_   -- 4.0
    refine V_mov (.n _) rfl rfl ?_   -- 4.1
    refine V_lss (.n _) rfl rfl rfl ?_   -- 4.2
    refine V_sub [(0, _), (1, _), (2, _), (3, _), (8, _), (9, _), (10, _), (28, _), (39, _)] ⟨rfl, rfl, rfl, rfl, rfl, rfl, rfl, rfl, rfl, trivial⟩ ?_
    refine V_nil (.inl rfl) ?_
    refine E_then ?_
    refine J_cond rfl (fun h2 => ?_) (fun h2 => ?_)   -- C1
    · skip
      refine J_seq ?_
      refine J_region ?_
      refine V_mov (.n _) rfl rfl ?_   -- 5.0
      refine V_mov (.n _) rfl rfl ?_   -- 5.1
      refine V_asg (.n _) rfl rfl ?_   -- 5.2
      refine V_asg (.n _) rfl rfl ?_   -- 5.3
      refine V_sub [(0, _), (1, _), (2, _), (3, _), (8, _), (9, _), (10, _), (28, _), (39, _)] ⟨rfl, rfl, rfl, rfl, rfl, rfl, rfl, rfl, rfl, trivial⟩ ?_
      refine V_nil (.inl rfl) ?_
      refine E_then ?_
      refine J_ret ?_
      refine E_then_ret ?_
      refine E_then_ret ?_
      -- return R0
      refine E_ret2 Tryd.results91 rfl rfl (fun w hw => ?_)
      have hte := toursR_full_y (lim := lim) hk hi.ok (by assumption)
      exact ⟨_, [], rfl, hw, AB, cB, by rw [hte, List.length_map], .inr ⟨rfl, by rw [hte]⟩⟩
    · skip
      refine J_skip ?_
      refine E_then ?_
      refine J_seq ?_
      refine J_region ?_
      refine V_mov (.n _) rfl rfl ?_   -- 6.0
      refine V_asg (.n _) rfl rfl ?_   -- 6.1
      refine V_asg (.n _) rfl rfl ?_   -- 6.2
      refine V_sub [(0, _), (1, _), (2, _), (3, _), (8, _), (9, _), (10, _), (28, _), (39, _)] ⟨rfl, rfl, rfl, rfl, rfl, rfl, rfl, rfl, rfl, trivial⟩ ?_
      refine V_nil (.inl rfl) ?_
      refine E_then ?_
      refine J_ret ?_
      refine E_then_ret ?_
      -- return R1
      refine E_ret2 Tryd.results91 rfl rfl (fun w hw => ?_)
      have hte := toursR_full_n (lim := lim) hk hi.ok (by assumption)
      exact ⟨_, [], rfl, hw, none, 0, by rw [hte]; rfl, .inl (by rw [hte]; exact Rds.nil)⟩
  · exact absurd (show ((l.length : Nat) : Int) = ((d.length : Nat) : Int) by omega) h1

theorem tours_spec (A : Option Addr) (c : Nat) (vs : List Value) (d : Rows2) (hd : DP d) (hl : d.length ≤ 140737488351232) : ∀ (k : Nat) (w : World) (AB : Option Addr) (cB : Nat) (l : List Nat) (len lim : Int), l.length + k = d.length → TIn d l len lim → Mx w A vs d → Rd w AB (I (l.map Int.ofNat)) → Calls Tryd.prog 91 #[.slice A d.length c, .slice AB l.length cB, .int .i64 len, .int .i64 lim] w fun e w' => ∃ v D, e = .returned v ∧ St w D w' ∧ TOut d l len lim AB v D
  | 0, w, AB, cB, l, len, lim, hk, hi, hm, hr => tours_full A c vs d hd hl w AB cB l len lim (by omega) hi hm hr
  | k + 1, w, AB, cB, l, len, lim, hk, hi, hm, hr => tours_one A c vs d hd hl k (tours_spec A c vs d hd hl k) w AB cB l len lim hk hi hm hr
noncomputable def tourR (d : Rows2) : List Int × Int := if distP d = true then ((tourT d.length d).map Int.ofNat, 0) else ([], 2)
theorem tourR_y {d : Rows2} (h : DP d) : tourR d = ((tourT d.length d).map Int.ofNat, 0) := by rw [tourR, if_pos (distP_yes h)]
theorem tourR_n {d : Rows2} (h : distP d = false) : tourR d = ([], 2) := by rw [tourR, if_neg (by rw [h]; simp)]
theorem tin_start {d : Rows2} (hd : DP d) : TIn d [0] 0 1099511627776 := by
  have h3 := hd.n3
  refine ⟨?_, by simp, by simp; omega, by omega, by simp, by omega, by omega⟩
  rw [okO, decide_eq_true (by omega)]; rfl
theorem toursR_start {d : Rows2} (hd : DP d) : (toursR d [0] 0 1099511627776).1 = (tourT d.length d).map Int.ofNat := by
  have h3 := hd.n3
  have h9 := hd.n9
  have hp : 2 ^ 3 ≤ 2 ^ d.length := Nat.pow_le_pow_right (by decide) h3
  have e1 : endO 0 [0] = 1 := rfl
  have e2 : lastN [0] = 0 := rfl
  have hh := (home_lim hd.costs (by omega) (by omega) (show 1 < 2 ^ d.length by omega) (show 0 < d.length by omega)).2
  rw [toursR, e1, e2, if_pos (by omega)]; rfl

theorem RTour_spec (w : World) (A : Option Addr) (c : Nat) (vs : List Value) (d : Rows2) (hl : d.length ≤ 140737488351232) (hm : Mx w A vs d) (hlr : ∀ r ∈ d, r.length ≤ 140737488351232) : Calls Tryd.prog 45 #[.slice A d.length c] w fun e w' => ∃ A' c' D, e = .returned (.tuple #[.slice A' (tourR d).1.length c', .int .i64 (tourR d).2]) ∧ St w D w' ∧ Rds D A' (I (tourR d).1) := by
  refine calls (args := [.slice A d.length c]) Tryd.func45 rfl Tryd.ntmps45 (Nat.le_of_ble_eq_true rfl) (St.refl w) ?_
  refine J_seq ?_
  refine J_region ?_
  refine V_asg (.n _) rfl rfl ?_   -- 0.0
  refine V_asg (.n _) rfl rfl ?_   -- 0.1
  refine V_sub [(0, _), (2, _), (3, _)] ⟨rfl, rfl, rfl, trivial⟩ ?_
  refine V_nil (.inl rfl) ?_
  refine E_then ?_
  refine J_seq ?_
  refine J_seq ?_
  refine J_region ?_
  refine V_mov (.n _) rfl rfl ?_   -- 1.0
  refine V_call0 (.n _) Tryd.call48 (.cons rfl .nil) (fun w1 hw1 => rdist_spec w1 A c vs d hl (hm.keep hw1) hlr) rfl trivial ?_   -- 1.1
  refine V_notB (.n _) rfl rfl ?_   -- 1.2
  refine V_sub [(0, _), (2, _), (3, _), (8, _)] ⟨rfl, rfl, rfl, rfl, trivial⟩ ?_
  refine V_nil (.inl rfl) ?_
  refine E_then ?_
  refine J_condB rfl (fun h1 => ?_) (fun h1 => ?_)   -- C0
  · skip
    refine J_seq ?_
    refine J_region ?_
    refine V_asg (.n _) rfl rfl ?_   -- 2.0
    refine V_asg (.n _) rfl rfl ?_   -- 2.1
    refine V_sub [(0, _), (2, _), (3, _), (8, _)] ⟨rfl, rfl, rfl, rfl, trivial⟩ ?_
    refine V_nil (.inl rfl) ?_
    refine E_then ?_
    refine J_ret ?_
    refine E_then_ret ?_
    -- return R0
    refine E_ret2 Tryd.results45 rfl rfl (fun w hw => ?_)
    have hte := tourR_n (d := d) (by simpa using ‹(!distP d) = true›)
    exact ⟨none, 0, [], by rw [hte]; rfl, hw, by rw [hte]; exact Rds.nil⟩
  · have hd : DP d := distP_iff.1 (by simpa using h1)
    refine J_skip ?_
    refine E_then ?_
    refine J_seq ?_
    refine J_region ?_
    refine V_mov (.n _) rfl rfl ?_   -- 3.0
    refine V_lit (.n _) Tryd.underlying34 Tryd.sizeOf3 Tryd.zeroValue3 (.cons rfl rfl rfl .nil) rfl rfl rfl (fun _ => trivial) (fun b11 => ?_)   -- 3.1
    refine V_call (post := fun v D => TOut d [0] 0 1099511627776 (some ⟨b11, 0, none⟩) v D) (.n _) Tryd.call91 (.cons rfl (.cons rfl (.cons rfl (.cons rfl .nil)))) (fun w1 hw1 => tours_spec A c vs d hd hl (d.length - 1) w1 (some ⟨b11, 0, none⟩) 1 [0] 0 1099511627776 (by have := hd.n3; simp; omega) (tin_start hd) (hm.keep hw1) (Rd.own hw1 (t := 3) (by repeat (first | exact List.Mem.head _ | assumption | apply List.Mem.tail | apply List.mem_append_right)))) rfl trivial ?_
    rintro v D ⟨A', c', rfl, hout⟩
    have htn := toursR_start hd
    generalize toursR d [0] 0 1099511627776 = R at htn hout ⊢
    refine V_mov (.n _) rfl rfl ?_   -- 3.3
    refine V_ext (.n _) rfl rfl rfl ?_   -- 3.4
    refine V_ext (.n _) rfl rfl rfl ?_   -- 3.5
    refine V_asg (.n _) rfl rfl ?_   -- 3.6
    refine V_asg (.n _) rfl rfl ?_   -- 3.7
    refine V_sub [(0, _), (2, _), (3, _), (4, _), (8, _)] ⟨rfl, rfl, rfl, rfl, rfl, trivial⟩ ?_
    refine V_nil (.inl rfl) ?_
    refine E_then ?_
    refine J_seq ?_
    refine J_region ?_
    refine V_mov (.n _) rfl rfl ?_   -- 4.0
    refine V_asg (.n _) rfl rfl ?_   -- 4.1
    refine V_asg (.n _) rfl rfl ?_   -- 4.2
    refine V_sub [(0, _), (2, _), (3, _), (4, _), (8, _)] ⟨rfl, rfl, rfl, rfl, rfl, trivial⟩ ?_
    refine V_nil (.inl rfl) ?_
    refine E_then ?_
    refine J_ret ?_
    -- return R1
    refine E_ret2 Tryd.results45 rfl rfl (fun w hw => ?_)
    have hte := tourR_y hd
    rw [htn] at hout
    refine ⟨A', c', _, by rw [hte, htn]; rfl, hw, ?_⟩
    rw [hte]
    rcases hout with h | ⟨rfl, h⟩
    · exact h.mono (by intro x hx; simp [hx])
    · rw [h]; exact Rds.mono (D := [.c b11 3 [.int .i64 0]]) Rds.row (by intro x hx; simp at hx; subst hx; simp)

end Go.Proofs.YtgeahmmepfmcoaaDoor
