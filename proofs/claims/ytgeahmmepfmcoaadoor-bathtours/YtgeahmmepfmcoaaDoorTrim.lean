/- parts that the proof of BathTours uses -/
import Derived.Test.YtgeahmmepfmcoaaDoorPMath
import Derived.Test.YtgeahmmepfmcoaaDoorProg
namespace Go.Proofs.YtgeahmmepfmcoaaDoor
open Go Go.RowKit L
set_option linter.unusedVariables false
set_option linter.unusedSimpArgs false
theorem fo109_0 : Fo Tryd.prog 109 0 0 := Fo.mk Tryd.underlying109 rfl Tryd.sizeOf107 rfl rfl

def z256 : List Bool := List.replicate 256 false
theorem z256_length : z256.length = 256 := by unfold z256; exact List.length_replicate
theorem z256_get (i : Nat) : z256.getD i false = false := by
  unfold z256
  rw [List.getD_eq_getElem?_getD, List.getElem?_replicate]; split <;> rfl
def tabOf (l : List UInt8) : List Bool := l.foldl (fun t c => t.set c.toNat true) z256
theorem tabOf_length (l : List UInt8) : (tabOf l).length = 256 := by
  unfold tabOf
  have : ∀ (l : List UInt8) (t : List Bool), (l.foldl (fun t c => t.set c.toNat true) t).length = t.length := by
    intro l; induction l with
    | nil => intro t; rfl
    | cons c l ih => intro t; rw [List.foldl_cons, ih]; simp
  rw [this]; exact z256_length
theorem tabOf_get (l : List UInt8) (c : UInt8) : (tabOf l).getD c.toNat false = l.contains c := by
  unfold tabOf
  have : ∀ (l : List UInt8) (t : List Bool), t.length = 256 → (l.foldl (fun t c => t.set c.toNat true) t).getD c.toNat false = (l.contains c || t.getD c.toNat false) := by
    intro l; induction l with
    | nil => intro t _; simp
    | cons x l ih =>
      intro t ht
      rw [List.foldl_cons, ih _ (by simpa using ht)]
      have hc : c.toNat < 256 := c.toNat_lt
      by_cases e : x = c
      · subst e; simp [List.getD_eq_getElem?_getD, ht, hc]
      · have hne : x.toNat ≠ c.toNat := fun h => e (UInt8.toNat_inj.1 h)
        have e2 : (c == x) = false := by simp; exact fun h => e h.symm
        rw [List.contains_cons, e2, Bool.false_or]
        simp [List.getD_eq_getElem?_getD, List.getElem?_set, hne]
  rw [this l _ z256_length, z256_get]; simp
theorem tabOf_snoc (l : List UInt8) (c : UInt8) : tabOf (l ++ [c]) = (tabOf l).set c.toNat true := by simp [tabOf, List.foldl_append]

theorem Bl_set (t : List Bool) (j : Nat) (b : Bool) : (Bl t).set j (.bool b) = Bl (t.set j b) := by simp [Bl, List.map_set]
theorem Bl_one (t : List Bool) : ∀ u ∈ Bl t, u.oneCell' = true := by
  intro u hu; obtain ⟨b, _, rfl⟩ := List.mem_map.1 hu; rfl

def trimR (cut s : List UInt8) : List UInt8 := (s.reverse.dropWhile (cut.contains ·)).reverse
def trimL (cut s : List UInt8) : List UInt8 := s.dropWhile (cut.contains ·)
def trimS (cut s : List UInt8) : List UInt8 := trimL cut (trimR cut s)
theorem trimS_nil (cut s : List UInt8) : trimS cut s = [] ↔ ∀ c ∈ s, cut.contains c = true := by
  unfold trimS trimL trimR
  have dn : ∀ l : List UInt8, l.dropWhile (cut.contains ·) = [] ↔ ∀ c ∈ l, cut.contains c = true := by
    intro l
    induction l with
    | nil => simp
    | cons c l ih =>
      rw [List.dropWhile_cons]
      by_cases h : cut.contains c = true
      · rw [if_pos h, ih]; simp only [List.mem_cons, forall_eq_or_imp, h, true_and]
      · rw [if_neg h]
        constructor
        · intro e; cases e
        · intro hh; exact (h (hh c (by simp))).elim
  constructor
  · intro h
    have h1 := (dn _).1 h
    by_cases h2 : s.reverse.dropWhile (cut.contains ·) = []
    · have := (dn _).1 h2
      intro c hc; exact this c (by simpa using hc)
    · -- its head is no element of the set
      obtain ⟨x, r, hx⟩ := List.exists_cons_of_ne_nil h2
      have hh : cut.contains x = false := by
        have := List.head?_dropWhile_not (cut.contains ·) s.reverse
        rw [hx] at this
        simpa using this
      have := h1 x (by rw [hx]; simp)
      rw [hh] at this; cases this
  · intro h
    have : s.reverse.dropWhile (cut.contains ·) = [] := (dn _).2 (fun c hc => h c (by simpa using hc))
    rw [this]; rfl
theorem trimL_stop {cut p : List UInt8} (h : p = [] ∨ ∃ c r, p = c :: r ∧ cut.contains c = false) : trimL cut p = p := by
  unfold trimL
  rcases h with rfl | ⟨c, r, rfl, h⟩
  · rfl
  · rw [List.dropWhile_cons, if_neg (by simpa using h)]
theorem trimR_stop {cut p : List UInt8} (h : p = [] ∨ ∃ c r, p = r ++ [c] ∧ cut.contains c = false) : trimR cut p = p := by
  unfold trimR
  rcases h with rfl | ⟨c, r, rfl, h⟩
  · rfl
  · rw [List.reverse_append, List.reverse_singleton, List.singleton_append, List.dropWhile_cons, if_neg (by simpa using h)]; simp
theorem getD_last {p : List UInt8} (h : p ≠ []) : p = p.take (p.length - 1) ++ [p.getD (p.length - 1) 0] := by
  have hl : 0 < p.length := List.length_pos_iff.2 h
  have : p.getD (p.length - 1) 0 = p[p.length - 1]'(by omega) := by simp [show p.length - 1 < p.length by omega]
  rw [this]
  have h2 := List.take_succ_eq_append_getElem (show p.length - 1 < p.length by omega)
  rw [← h2, List.take_of_length_le (by omega)]

theorem zv122 : Tryd.t122.zero = some (.agg (Bl z256).toArray) := by kernel_rfl
theorem zeroValue122 (w : World) : (zeroValue 122).run Tryd.prog w = .ok (.agg (Bl z256).toArray) w := by
  simp only [zeroValue, Sem.run_bind, Tryd.typeInfo122, Result.andThen_ok, zv122]; rfl
theorem u8lt (c : UInt8) : (c.toNat : Int) < 256 := by have := c.toNat_lt; omega

theorem contains_spec (w : World) (b : Nat) (tab : List Bool) (c : UInt8) (hl : tab.length = 256) (hr : Rd w (some ⟨b, 0, none⟩) (Bl tab)) :
    Calls Tryd.prog 116 #[.pointer (some ⟨b, 0, none⟩), .int .u8 c.toNat] w fun e w' => e = .returned (.bool (tab.getD c.toNat false)) ∧ St w [] w' := by
  have hc := u8lt c
  refine calls (args := [.pointer (some ⟨b, 0, none⟩), .int .u8 c.toNat]) Tryd.func116 rfl Tryd.ntmps116 (Nat.le_of_ble_eq_true rfl) (St.refl w) ?_
  refine J_seq ?_
  refine J_region ?_
  refine V_asg (.n _) rfl rfl ?_   -- 0.0
  refine V_sub [(0, _), (1, _), (4, _)] ⟨rfl, rfl, rfl, trivial⟩ ?_
  refine V_nil (.inl rfl) ?_
  refine E_then ?_
  refine J_seq ?_
  refine J_region ?_
  refine V_mov (.n _) rfl rfl ?_   -- 1.0
  refine V_mov (.n _) rfl rfl ?_   -- 1.1
  refine V_nc (.n _) rfl rfl ?_   -- 1.2
  refine V_ixA (.n _) Tryd.underlying122 Tryd.sizeOf4 rfl rfl (by omega) (by omega) rfl ?_   -- 1.3
  refine V_ldz (A := some ⟨b, 0, none⟩) (j := (c.toNat : Int).toNat * 1) (.n _) Tryd.isAgg4 rfl hr (Bl_get (by omega) (by omega)) rfl ?_   -- 1.4
  refine V_asg (.n _) rfl rfl ?_   -- 1.5
  refine V_sub [(0, _), (1, _), (4, _)] ⟨rfl, rfl, rfl, trivial⟩ ?_
  refine V_nil (.inl rfl) ?_
  refine E_then ?_
  refine J_ret ?_
  -- return R0
  refine E_ret1 Tryd.results116 rfl (fun w hw => ?_)
  exact ⟨by simp, hw⟩

theorem trimLeft_spec (w : World) (b : Nat) (cut s : List UInt8) (hs : s.length ≤ 1073741824) (hr : Rd w (some ⟨b, 0, none⟩) (Bl (tabOf cut))) :
    Calls Tryd.prog 101 #[.string ⟨s.toArray⟩, .pointer (some ⟨b, 0, none⟩)] w fun e w' => e = .returned (.string ⟨(trimL cut s).toArray⟩) ∧ St w [] w' := by
  refine calls (args := [.string ⟨s.toArray⟩, .pointer (some ⟨b, 0, none⟩)]) Tryd.func101 rfl Tryd.ntmps101 (Nat.le_of_ble_eq_true rfl) (St.refl w) ?_
  refine J_seq ?_
  refine J_region ?_
  refine V_asg (.n _) rfl rfl ?_   -- 0.0
  refine V_sub [(0, _), (1, _), (4, _)] ⟨rfl, rfl, rfl, trivial⟩ ?_
  refine V_nil (.inl rfl) ?_
  refine E_then ?_
  refine J_seq ?_
  refine J_block ?_
  -- loop L0
  refine J_loop (X := List UInt8) (fun p => [(0, .string ⟨p.toArray⟩), (1, (.pointer (some ⟨b, 0, none⟩))), (4, (.string ⟨#[]⟩))]) (fun p => []) (fun p => p.length ≤ s.length ∧ trimL cut p = trimL cut s) (fun p => p.length) (s) (by refine ⟨?_, ?_, ?_, trivial⟩ <;> first | rfl | exact int_eq (by omega)) (fun w h => h) ?_ ?_
  · exact ⟨by omega, rfl⟩
  · rintro p ⟨hp0, hp⟩
    refine J_seq ?_
    refine J_seq ?_
    refine J_region ?_
    refine V_mov (.n _) rfl rfl ?_   -- 1.0
    refine V_slen (.n _) Tryd.underlying9 rfl rfl ?_   -- 1.1
    refine V_gtr (.n _) rfl rfl rfl ?_   -- 1.2
    refine V_sub [(0, _), (1, _), (4, _), (7, _)] ⟨rfl, rfl, rfl, rfl, trivial⟩ ?_
    refine V_nil (.inl rfl) ?_
    refine E_then ?_
    refine J_cond rfl (fun h1 => ?_) (fun h1 => ?_)   -- C0
    · skip
      refine J_skip ?_
      refine E_then ?_
      refine J_block ?_
      refine J_seq ?_
      refine J_seq ?_
      refine J_region ?_
      refine V_mov (.n _) rfl rfl ?_   -- 2.0
      refine V_mov (.n _) rfl rfl ?_   -- 2.1
      refine V_sidx (.n _) Tryd.underlying9 rfl rfl (by omega) (by omega) rfl ?_   -- 2.2
      refine V_call0 (.n _) Tryd.call116 (.cons rfl (.cons rfl .nil)) (fun w1 hw1 => contains_spec w1 b (tabOf cut) (p.getD (0 : Int).toNat 0) (tabOf_length _) (hr.keep hw1)) rfl trivial ?_   -- 2.3
      refine V_notB (.n _) rfl rfl ?_   -- 2.4
      refine V_sub [(0, _), (1, _), (4, _), (7, _), (12, _)] ⟨rfl, rfl, rfl, rfl, rfl, trivial⟩ ?_
      refine V_nil (.inl rfl) ?_
      refine E_then ?_
      refine J_condB rfl (fun h2 => ?_) (fun h2 => ?_)   -- C1
      · rw [tabOf_get] at h2
        refine J_exit ?_
        refine E_then_exit ?_
        refine E_blk_exit rfl ?_
        refine E_lp_exit ?_
        refine E_blk_hit ?_
        refine E_then ?_
        refine J_seq ?_
        refine J_region ?_
        refine V_mov (.n _) rfl rfl ?_   -- 4.0
        refine V_asg (.n _) rfl rfl ?_   -- 4.1
        refine V_sub [(0, _), (1, _), (4, _), (7, _), (12, _)] ⟨rfl, rfl, rfl, rfl, rfl, trivial⟩ ?_
        refine V_nil (.inl rfl) ?_
        refine E_then ?_
        refine J_ret ?_
        -- return R0
        refine E_ret1 Tryd.results101 rfl (fun w hw => ?_)
        have hne : p ≠ [] := by rintro rfl; simp at h1
        obtain ⟨c, r, rfl⟩ := List.exists_cons_of_ne_nil hne
        refine ⟨?_, hw⟩
        rw [← hp, trimL_stop (.inr ⟨c, r, rfl, by simpa using h2⟩)]
      · rw [tabOf_get] at h2
        refine J_skip ?_
        refine E_then ?_
        refine J_region ?_
        refine V_mov (.n _) rfl rfl ?_   -- 3.0
        refine V_sslcL (.n _) Tryd.underlying9 rfl rfl (by omega) (by omega) rfl ?_   -- 3.1
        refine V_asg (.n _) rfl rfl ?_   -- 3.2
        refine V_sub [(0, _), (1, _), (4, _), (7, _), (12, _)] ⟨rfl, rfl, rfl, rfl, rfl, trivial⟩ ?_
        refine V_nil (.inl rfl) ?_
        refine E_blk ?_
        -- again L0 0
        refine E_again (p.drop 1) ?_ ?_ ?_ (fun w h => h)
        · simp; omega
        · refine ⟨by simp; omega, ?_⟩
          rw [← hp]
          obtain ⟨c, r, rfl⟩ := List.exists_cons_of_ne_nil (l := p) (by rintro rfl; simp at h1)
          have hc : cut.contains c = true := by simpa using h2
          simp only [trimL, List.drop_one, List.tail_cons, List.dropWhile_cons, hc, if_true]
        · refine ⟨?_, ?_, ?_, trivial⟩ <;> first | rfl | exact int_eq (by omega) | exact int_eq (by dsimp only; omega)
    · skip
      refine J_exit ?_
      refine E_then_exit ?_
      refine E_lp_exit ?_
      refine E_blk_hit ?_
      refine E_then ?_
      refine J_seq ?_
      refine J_region ?_
      refine V_mov (.n _) rfl rfl ?_   -- 4.0
      refine V_asg (.n _) rfl rfl ?_   -- 4.1
      refine V_sub [(0, _), (1, _), (4, _), (7, _)] ⟨rfl, rfl, rfl, rfl, trivial⟩ ?_
      refine V_nil (.inl rfl) ?_
      refine E_then ?_
      refine J_ret ?_
      -- return R1
      refine E_ret1 Tryd.results101 rfl (fun w hw => ?_)
      refine ⟨?_, hw⟩
      rw [← hp, trimL_stop (.inl (List.length_eq_zero_iff.1 (by omega)))]

theorem trimRight_spec (w : World) (b : Nat) (cut s : List UInt8) (hs : s.length ≤ 1073741824) (hr : Rd w (some ⟨b, 0, none⟩) (Bl (tabOf cut))) :
    Calls Tryd.prog 102 #[.string ⟨s.toArray⟩, .pointer (some ⟨b, 0, none⟩)] w fun e w' => e = .returned (.string ⟨(trimR cut s).toArray⟩) ∧ St w [] w' := by
  refine calls (args := [.string ⟨s.toArray⟩, .pointer (some ⟨b, 0, none⟩)]) Tryd.func102 rfl Tryd.ntmps102 (Nat.le_of_ble_eq_true rfl) (St.refl w) ?_
  refine J_seq ?_
  refine J_region ?_
  refine V_asg (.n _) rfl rfl ?_   -- 0.0
  refine V_sub [(0, _), (1, _), (4, _)] ⟨rfl, rfl, rfl, trivial⟩ ?_
  refine V_nil (.inl rfl) ?_
  refine E_then ?_
  refine J_seq ?_
  refine J_block ?_
  -- loop L0
  refine J_loop (X := List UInt8) (fun p => [(0, .string ⟨p.toArray⟩), (1, (.pointer (some ⟨b, 0, none⟩))), (4, (.string ⟨#[]⟩))]) (fun p => []) (fun p => p.length ≤ s.length ∧ trimR cut p = trimR cut s) (fun p => p.length) (s) (by refine ⟨?_, ?_, ?_, trivial⟩ <;> first | rfl | exact int_eq (by omega)) (fun w h => h) ?_ ?_
  · exact ⟨by omega, rfl⟩
  · rintro p ⟨hp0, hp⟩
    refine J_seq ?_
    refine J_seq ?_
    refine J_region ?_
    refine V_mov (.n _) rfl rfl ?_   -- 1.0
    refine V_slen (.n _) Tryd.underlying9 rfl rfl ?_   -- 1.1
    refine V_gtr (.n _) rfl rfl rfl ?_   -- 1.2
    refine V_sub [(0, _), (1, _), (4, _), (7, _)] ⟨rfl, rfl, rfl, rfl, trivial⟩ ?_
    refine V_nil (.inl rfl) ?_
    refine E_then ?_
    refine J_cond rfl (fun h1 => ?_) (fun h1 => ?_)   -- C0
    · skip
      refine J_skip ?_
      refine E_then ?_
      refine J_block ?_
      refine J_seq ?_
      refine J_seq ?_
      refine J_region ?_
      refine V_mov (.n _) rfl rfl ?_   -- 2.0
      refine V_mov (.n _) rfl rfl ?_   -- 2.1
      refine V_mov (.n _) rfl rfl ?_   -- 2.2
      refine V_slen (.n _) Tryd.underlying9 rfl rfl ?_   -- 2.3
      refine V_sub1 (.n _) rfl rfl (wrap_ok (by omega)) rfl ?_   -- 2.4
      refine V_sidx (.n _) Tryd.underlying9 rfl rfl (by omega) (by omega) rfl ?_   -- 2.5
      refine V_call0 (.n _) Tryd.call116 (.cons rfl (.cons rfl .nil)) (fun w1 hw1 => contains_spec w1 b (tabOf cut) (p.getD ((p.length : Int) - 1).toNat 0) (tabOf_length _) (hr.keep hw1)) rfl trivial ?_   -- 2.6
      refine V_notB (.n _) rfl rfl ?_   -- 2.7
      refine V_sub [(0, _), (1, _), (4, _), (7, _), (15, _)] ⟨rfl, rfl, rfl, rfl, rfl, trivial⟩ ?_
      refine V_nil (.inl rfl) ?_
      refine E_then ?_
      refine J_condB rfl (fun h2 => ?_) (fun h2 => ?_)   -- C1
      · rw [tabOf_get] at h2
        refine J_exit ?_
        refine E_then_exit ?_
        refine E_blk_exit rfl ?_
        refine E_lp_exit ?_
        refine E_blk_hit ?_
        refine E_then ?_
        refine J_seq ?_
        refine J_region ?_
        refine V_mov (.n _) rfl rfl ?_   -- 4.0
        refine V_asg (.n _) rfl rfl ?_   -- 4.1
        refine V_sub [(0, _), (1, _), (4, _), (7, _), (15, _)] ⟨rfl, rfl, rfl, rfl, rfl, trivial⟩ ?_
        refine V_nil (.inl rfl) ?_
        refine E_then ?_
        refine J_ret ?_
        -- return R0
        refine E_ret1 Tryd.results102 rfl (fun w hw => ?_)
        have hne : p ≠ [] := by rintro rfl; simp at h1
        have en : ((p.length : Int) - 1).toNat = p.length - 1 := by omega
        rw [en] at h2
        refine ⟨?_, hw⟩
        rw [← hp, trimR_stop (.inr ⟨_, _, getD_last hne, by simpa using h2⟩)]
      · rw [tabOf_get] at h2
        refine J_skip ?_
        refine E_then ?_
        refine J_region ?_
        refine V_mov (.n _) rfl rfl ?_   -- 3.0
        refine V_mov (.n _) rfl rfl ?_   -- 3.1
        refine V_slen (.n _) Tryd.underlying9 rfl rfl ?_   -- 3.2
        refine V_sub1 (.n _) rfl rfl (wrap_ok (by omega)) rfl ?_   -- 3.3
        refine V_sslcH (.n _) Tryd.underlying9 rfl rfl (by omega) (by omega) rfl ?_   -- 3.4
        refine V_asg (.n _) rfl rfl ?_   -- 3.5
        refine V_sub [(0, _), (1, _), (4, _), (7, _), (15, _)] ⟨rfl, rfl, rfl, rfl, rfl, trivial⟩ ?_
        refine V_nil (.inl rfl) ?_
        refine E_blk ?_
        -- again L0 0
        refine E_again (p.take ((p.length : Int) - 1).toNat) ?_ ?_ ?_ (fun w h => h)
        · simp; omega
        · refine ⟨by simp; omega, ?_⟩
          have hne : p ≠ [] := by rintro rfl; simp at h1
          have e := getD_last hne
          have en : ((p.length : Int) - 1).toNat = p.length - 1 := by omega
          rw [en] at h2 ⊢
          rw [← hp]
          conv => rhs; rw [e]
          simp only [trimR, List.reverse_append, List.reverse_singleton, List.singleton_append, List.dropWhile_cons]
          rw [if_pos (by simpa using h2)]
        · refine ⟨?_, ?_, ?_, trivial⟩ <;> first | rfl | exact int_eq (by omega) | exact int_eq (by dsimp only; omega)
    · skip
      refine J_exit ?_
      refine E_then_exit ?_
      refine E_lp_exit ?_
      refine E_blk_hit ?_
      refine E_then ?_
      refine J_seq ?_
      refine J_region ?_
      refine V_mov (.n _) rfl rfl ?_   -- 4.0
      refine V_asg (.n _) rfl rfl ?_   -- 4.1
      refine V_sub [(0, _), (1, _), (4, _), (7, _)] ⟨rfl, rfl, rfl, rfl, trivial⟩ ?_
      refine V_nil (.inl rfl) ?_
      refine E_then ?_
      refine J_ret ?_
      -- return R1
      refine E_ret1 Tryd.results102 rfl (fun w hw => ?_)
      refine ⟨?_, hw⟩
      rw [← hp, trimR_stop (.inl (List.length_eq_zero_iff.1 (by omega)))]

theorem makeSet_spec (w : World) (cut : List UInt8) (hs : cut.length ≤ 1073741824) (ha : ∀ c ∈ cut, c.toNat < 128) :
    Calls Tryd.prog 100 #[.string ⟨cut.toArray⟩] w fun e w' => e = .returned (.tuple #[.agg (Bl (tabOf cut)).toArray, .bool true]) ∧ St w [] w' := by
  refine calls (args := [.string ⟨cut.toArray⟩]) Tryd.func100 rfl Tryd.ntmps100 (Nat.le_of_ble_eq_true rfl) (St.refl w) ?_
  refine J_seq ?_
  refine J_region ?_
  refine V_alloc (.n _) zeroValue122 rfl rfl (fun _ => trivial) (fun b2 => ?_)   -- 0.0
  refine V_asg (.n _) rfl rfl ?_   -- 0.1
  refine V_sub [(0, _), (2, _), (3, _)] ⟨rfl, rfl, rfl, trivial⟩ ?_
  refine V_nil (.inl rfl) ?_
  refine E_then ?_
  refine J_seq ?_
  refine J_seq ?_
  refine J_region ?_
  refine V_asg (.n _) rfl rfl ?_   -- 1.0
  refine V_sub [(0, _), (2, _), (3, _), (4, _)] ⟨rfl, rfl, rfl, rfl, trivial⟩ ?_
  refine V_nil (.inl rfl) ?_
  refine E_then ?_
  refine J_block ?_
  -- loop L0
  refine J_loop (X := Int) (fun k => [(0, (.string ⟨cut.toArray⟩)), (2, (.pointer (some ⟨b2, 0, none⟩))), (4, .int .i64 k)]) (fun k => [.c b2 122 (Bl (tabOf (cut.take k.toNat)))]) (fun k => 0 ≤ k ∧ k ≤ cut.length) (fun k => (cut.length - k).toNat) (0) (by refine ⟨?_, ?_, ?_, trivial⟩ <;> first | rfl | exact int_eq (by omega)) (fun w h => h) ?_ ?_
  · exact ⟨by omega, by omega⟩
  · rintro k ⟨hk0, hk1⟩
    refine J_seq ?_
    refine J_seq ?_
    refine J_region ?_
    refine V_mov (.n _) rfl rfl ?_   -- 2.0
    refine V_mov (.n _) rfl rfl ?_   -- 2.1
    refine V_slen (.n _) Tryd.underlying9 rfl rfl ?_   -- 2.2
    refine V_lss (.n _) rfl rfl rfl ?_   -- 2.3
    refine V_sub [(0, _), (2, _), (4, _), (9, _)] ⟨rfl, rfl, rfl, rfl, trivial⟩ ?_
    refine V_nil (.inl rfl) ?_
    refine E_then ?_
    refine J_cond rfl (fun h1 => ?_) (fun h1 => ?_)   -- C0
    · skip
      refine J_skip ?_
      refine E_then ?_
      refine J_seq ?_
      refine J_block ?_
      refine J_seq ?_
      refine J_region ?_
      refine V_mov (.n _) rfl rfl ?_   -- 4.0
      refine V_mov (.n _) rfl rfl ?_   -- 4.1
      refine V_sidx (.n _) Tryd.underlying9 rfl rfl (by omega) (by omega) rfl ?_   -- 4.2
      refine V_asg (.n _) rfl rfl ?_   -- 4.3
      refine V_sub [(0, _), (2, _), (4, _), (5, _), (9, _)] ⟨rfl, rfl, rfl, rfl, rfl, trivial⟩ ?_
      refine V_nil (.inl rfl) ?_
      refine E_then ?_
      refine J_seq ?_
      refine J_seq ?_
      refine J_region ?_
      refine V_mov (.n _) rfl rfl ?_   -- 5.0
      refine V_geq (.n _) rfl rfl rfl ?_   -- 5.1
      refine V_sub [(0, _), (2, _), (4, _), (5, _), (9, _), (16, _)] ⟨rfl, rfl, rfl, rfl, rfl, rfl, trivial⟩ ?_
      refine V_nil (.inl rfl) ?_
      refine E_then ?_
      refine J_cond rfl (fun h2 => ?_) (fun h2 => ?_)   -- C1
      · exfalso
        have hk : k.toNat < cut.length := by omega
        have := ha (cut.getD k.toNat 0) (by simp [hk])
        omega
      · skip
        refine J_skip ?_
        refine E_then ?_
        refine J_region ?_
        refine V_mov (.n _) rfl rfl ?_   -- 7.0
        refine V_ixA (.n _) Tryd.underlying122 Tryd.sizeOf4 rfl rfl (by omega) (by have := u8lt (cut.getD k.toNat 0); omega) rfl ?_   -- 7.1
        have hcl := (cut.getD k.toNat 0).toNat_lt
        have hk : k.toNat < cut.length := by omega
        have ht : cut.take (k + 1).toNat = cut.take k.toNat ++ [cut.getD k.toNat 0] := by
          rw [show (k + 1).toNat = k.toNat + 1 by omega, List.take_succ_eq_append_getElem hk]; simp [hk]
        refine V_st (cs' := Bl (tabOf (cut.take (k + 1).toNat))) (.n _) Tryd.sizeOf4 rfl rfl rfl .z (by rw [Bl_set, ht, tabOf_snoc]; simp) (by rw [Bl_length, tabOf_length]; omega) ?_   -- 7.2
        refine V_sub [(0, _), (2, _), (4, _), (5, _), (9, _), (16, _)] ⟨rfl, rfl, rfl, rfl, rfl, rfl, trivial⟩ ?_
        refine V_nil (.inl rfl) ?_
        refine E_blk ?_
        refine E_then ?_
        refine J_region ?_
        refine V_mov (.n _) rfl rfl ?_   -- 3.0
        refine V_add (.n _) rfl rfl (wrap_ok (by omega)) rfl ?_   -- 3.1
        refine V_asg (.n _) rfl rfl ?_   -- 3.2
        refine V_sub [(0, _), (2, _), (4, _), (5, _), (9, _), (16, _)] ⟨rfl, rfl, rfl, rfl, rfl, rfl, trivial⟩ ?_
        refine V_nil (.inl rfl) ?_
        -- again L0 0
        refine E_again (k + 1) ?_ ?_ ?_ (fun w h => h)
        · omega
        · exact ⟨by omega, by omega⟩
        · refine ⟨?_, ?_, ?_, trivial⟩ <;> first | rfl | exact int_eq (by omega) | exact int_eq (by dsimp only; omega)
    · have hkk : cut.take k.toNat = cut := List.take_of_length_le (by omega)
      refine J_exit ?_
      refine E_then_exit ?_
      refine E_lp_exit ?_
      refine E_blk_hit ?_
      refine E_then ?_
      refine J_seq ?_
      refine J_region ?_
      refine V_ldN (.n _) Tryd.isAgg122 Tryd.sizeOf122 rfl (by repeat (first | exact List.Mem.head _ | assumption | apply List.Mem.tail)) (vs := Bl (tabOf cut)) (by rw [hkk, List.drop_zero]; exact List.take_of_length_le (by rw [Bl_length, tabOf_length]; exact Nat.le_refl _)) (by rw [Bl_length, tabOf_length]) rfl ?_   -- 8.0
      refine V_stN (us := Bl (tabOf cut)) (.n _) Tryd.sizeOf122 rfl rfl rfl (Bl_one _) .z (by simp [tabOf_length]) (by simp [tabOf_length]) ?_   -- 8.1
      refine V_asg (.n _) rfl rfl ?_   -- 8.2
      refine V_sub [(0, _), (2, _), (3, _), (4, _), (9, _)] ⟨rfl, rfl, rfl, rfl, rfl, trivial⟩ ?_
      refine V_nil (.inl rfl) ?_
      refine E_then ?_
      refine J_ret ?_
      -- return R0
      refine E_rets (rs := [.cell 2 122, .tmp 3]) Tryd.results100 (.c rfl Tryd.isAgg122 Tryd.sizeOf122 (by repeat (first | exact List.Mem.head _ | assumption | apply List.Mem.tail)) (by simp [tabOf_length]) (.t rfl .nil)) rfl (fun w hw => ?_)
      exact ⟨rfl, hw.sublist (by simp)⟩

theorem trimR_le (cut s : List UInt8) : (trimR cut s).length ≤ s.length := by
  unfold trimR
  have := (List.dropWhile_sublist (p := (cut.contains ·)) (l := s.reverse)).length_le
  simpa using this

theorem trim_spec (w : World) (cut s : List UInt8) (hs : s.length ≤ 1073741824) (hc : 2 ≤ cut.length) (hc2 : cut.length ≤ 1073741824) (ha : ∀ c ∈ cut, c.toNat < 128) :
    Calls Tryd.prog 53 #[.string ⟨s.toArray⟩, .string ⟨cut.toArray⟩] w fun e w' => e = .returned (.string ⟨(trimS cut s).toArray⟩) ∧ St w [] w' := by
  refine calls (args := [.string ⟨s.toArray⟩, .string ⟨cut.toArray⟩]) Tryd.func53 rfl Tryd.ntmps53 (Nat.le_of_ble_eq_true rfl) (St.refl w) ?_
  refine J_seq ?_
  refine J_region ?_
  refine V_asg (.n _) rfl rfl ?_   -- 0.0
  refine V_sub [(0, _), (1, _), (4, _)] ⟨rfl, rfl, rfl, trivial⟩ ?_
  refine V_nil (.inl rfl) ?_
  refine E_then ?_
  refine J_seq ?_
  refine J_seq ?_
  refine J_region ?_
  refine V_mov (.n _) rfl rfl ?_   -- 1.0
  refine V_seql (.n _) rfl rfl rfl ?_   -- 1.1
  refine V_mov (.n _) rfl rfl ?_   -- 1.2
  refine V_split 9 rfl (fun h1 => ?_) (fun h1 => ?_)   -- guard 1.2
  · skip
    refine V_pass (.n .p) (2, false) rfl rfl ?_   -- 1.3
    refine V_pass (.n .p) (2, false) rfl rfl ?_   -- 1.4
    refine V_pickT (.n _) rfl rfl rfl ?_   -- 1.5
    refine V_sub [(0, _), (1, _), (4, _), (12, _)] ⟨rfl, rfl, rfl, rfl, trivial⟩ ?_
    refine V_nil (.inl rfl) ?_
    refine E_then ?_
    refine J_condT rfl ?_
    refine J_seq ?_
    refine J_region ?_
    refine V_mov (.n _) rfl rfl ?_   -- 2.0
    refine V_asg (.n _) rfl rfl ?_   -- 2.1
    refine V_sub [(0, _), (1, _), (4, _), (12, _)] ⟨rfl, rfl, rfl, rfl, trivial⟩ ?_
    refine V_nil (.inl rfl) ?_
    refine E_then ?_
    refine J_ret ?_
    refine E_then_ret ?_
    -- return R0
    refine E_ret1 Tryd.results53 rfl (fun w hw => ?_)
    exact ⟨by rw [h1]; rfl, hw⟩
  · skip
    refine V_go (2, false) rfl ?_
    refine V_mov (.n _) rfl rfl ?_   -- 1.3
    refine V_go (2, false) rfl ?_
    refine V_seql (.n _) rfl rfl rfl ?_   -- 1.4
    refine V_pickF (.n _) rfl rfl rfl ?_   -- 1.5
    refine V_sub [(0, _), (1, _), (4, _), (12, _)] ⟨rfl, rfl, rfl, rfl, trivial⟩ ?_
    refine V_nil (.inl rfl) ?_
    refine E_then ?_
    refine J_cond rfl (fun h2 => ?_) (fun h2 => ?_)   -- C0
    · skip
      refine J_seq ?_
      refine J_region ?_
      refine V_mov (.n _) rfl rfl ?_   -- 2.0
      refine V_asg (.n _) rfl rfl ?_   -- 2.1
      refine V_sub [(0, _), (1, _), (4, _), (12, _)] ⟨rfl, rfl, rfl, rfl, trivial⟩ ?_
      refine V_nil (.inl rfl) ?_
      refine E_then ?_
      refine J_ret ?_
      refine E_then_ret ?_
      -- return R1
      refine E_ret1 Tryd.results53 rfl (fun w hw => ?_)
      exfalso; subst h2; simp at hc
    · skip
      refine J_skip ?_
      refine E_then ?_
      refine J_seq ?_
      refine J_seq ?_
      refine J_region ?_
      refine V_mov (.n _) rfl rfl ?_   -- 3.0
      refine V_slen (.n _) Tryd.underlying9 rfl rfl ?_   -- 3.1
      refine V_eql (.n _) rfl rfl rfl ?_   -- 3.2
      refine V_mov (.n _) rfl rfl ?_   -- 3.3
      refine V_split 17 rfl (fun h3 => ?_) (fun h3 => ?_)   -- guard 3.3
      · exfalso; omega
      · skip
        refine V_pass (.n .p) (3, true) rfl rfl ?_   -- 3.4
        refine V_pass (.n .p) (3, true) rfl rfl ?_   -- 3.5
        refine V_pass (.n .p) (3, true) rfl rfl ?_   -- 3.6
        refine V_pickF (.n _) rfl rfl rfl ?_   -- 3.7
        refine V_sub [(0, _), (1, _), (4, _), (12, _), (21, _)] ⟨rfl, rfl, rfl, rfl, rfl, trivial⟩ ?_
        refine V_nil (.inl rfl) ?_
        refine E_then ?_
        refine J_condF rfl ?_
        refine J_skip ?_
        refine E_then ?_
        refine J_seq ?_
        refine J_seq ?_
        refine J_region ?_
        refine V_mov (.n _) rfl rfl ?_   -- 5.0
        refine V_call0 (.n _) Tryd.call100 (.cons rfl .nil) (fun w1 hw1 => makeSet_spec w1 cut hc2 ha) rfl trivial ?_   -- 5.1
        refine V_mov (.n _) rfl rfl ?_   -- 5.2
        refine V_ext (.n _) rfl rfl rfl ?_   -- 5.3
        refine V_ext (.n _) rfl rfl rfl ?_   -- 5.4
        refine V_alloc (.n _) zeroValue122 rfl rfl (fun _ => trivial) (fun b5 => ?_)   -- 5.5
        refine V_stN (us := Bl (tabOf cut)) (.n _) Tryd.sizeOf122 rfl rfl rfl (Bl_one _) .z (by rw [Bl_length, tabOf_length]) (by rw [Bl_length, z256_length]) ?_   -- 5.6
        refine V_asg (.n _) rfl rfl ?_   -- 5.7
        refine V_sub [(0, _), (1, _), (4, _), (5, _), (6, _), (12, _), (21, _)] ⟨rfl, rfl, rfl, rfl, rfl, rfl, rfl, trivial⟩ ?_
        refine V_nil (.inl rfl) ?_
        refine E_then ?_
        refine J_seq ?_
        refine J_region ?_
        refine V_mov (.n _) rfl rfl ?_   -- 6.0
        refine V_sub [(0, _), (1, _), (4, _), (5, _), (6, _), (12, _), (21, _), (34, _)] ⟨rfl, rfl, rfl, rfl, rfl, rfl, rfl, rfl, trivial⟩ ?_
        refine V_nil (.inl rfl) ?_
        refine E_then ?_
        refine J_condT rfl ?_
        refine J_seq ?_
        refine J_region ?_
        refine V_mov (.n _) rfl rfl ?_   -- 7.0
        refine V_call0 (.n _) Tryd.call102 (.cons rfl (.cons rfl .nil)) (fun w1 hw1 => trimRight_spec w1 b5 cut s hs (Rd.own hw1 (List.Mem.head _))) rfl trivial ?_   -- 7.1
        refine V_call0 (.n _) Tryd.call101 (.cons rfl (.cons rfl .nil)) (fun w1 hw1 => trimLeft_spec w1 b5 cut (trimR cut s) (by have := trimR_le cut s; omega) (Rd.own hw1 (List.Mem.head _))) rfl trivial ?_   -- 7.2
        refine V_asg (.n _) rfl rfl ?_   -- 7.3
        refine V_sub [(0, _), (1, _), (4, _), (5, _), (6, _), (12, _), (21, _), (34, _)] ⟨rfl, rfl, rfl, rfl, rfl, rfl, rfl, rfl, trivial⟩ ?_
        refine V_nil (.inl rfl) ?_
        refine E_then ?_
        refine J_ret ?_
        refine E_then_ret ?_
        -- return R2
        refine E_ret1 Tryd.results53 rfl (fun w hw => ?_)
        exact ⟨rfl, hw.sublist (by simp)⟩

theorem trimS_bool (cut s : List UInt8) : decide (trimS cut s = []) = s.all (cut.contains ·) := by
  have := trimS_nil cut s
  by_cases h : trimS cut s = []
  · rw [decide_eq_true h]; exact (List.all_eq_true.2 (this.1 h)).symm
  · rw [decide_eq_false h]
    cases h2 : s.all (cut.contains ·) with
    | false => rfl
    | true => exact (h (this.2 (List.all_eq_true.1 h2))).elim

end Go.Proofs.YtgeahmmepfmcoaaDoor
