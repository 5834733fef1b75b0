/- parts that the proof of BathTours uses -/
import Derived.Test.YtgeahmmepfmcoaaDoorCore7
import Derived.ProofKit
import Derived.OpenShut
import Derived.SliceStrings
import Derived.ChangeSlices
import Derived.ChangeMaps5
import Derived.Deep.DeepHandedRow
import Derived.SizedLaws
namespace Go.Proofs.YtgeahmmepfmcoaaDoor.L
open Go Go.RowKit Go.ChangeShapes Go.WideShapes Go.ChangeAt
set_option linter.unusedVariables false
set_option linter.unusedSimpArgs false

variable {H : Type} {enc : TypeId × Value → H} {P : Program}

theorem rd_of {w : World} {a : Addr} {cs : List Value} (h : ∀ i v, cs[i]? = some v → w.cell? (a.add i) = some v) : Rd w (some a) cs := by
  intro j v hv
  have h0 : ∃ u, cs[0]? = some u := by
    cases cs with
    | nil => simp at hv
    | cons c cs => exact ⟨c, rfl⟩
  obtain ⟨u, hu⟩ := h0
  have hs := World.cell?_spot (h 0 u hu)
  obtain ⟨b, o, s⟩ := a
  simp only [Addr.add, if_true] at hs
  subst hs
  refine ⟨⟨b, o, rfl⟩, ?_⟩
  have := h j v hv
  by_cases hj : j = 0
  · subst hj; simpa [adr, Addr.add] using this
  · simpa [adr, Addr.add, hj] using this

theorem rd_nil {w : World} {A : Option Addr} : Rd w A [] := fun j v h => by simp at h

theorem open_row_ints {w : World} {r : Reach} {b0 : Nat} {t e : TypeId} {v : Value} {d : DataW H} {ps : List MemPlace} (ht : P.underlying t = some (.slice e)) (he : P.underlying e = some (.int .i64)) (hc : P.cellsOf e = 1)
    (hval : Value.okWide P w r b0 t v) (hsz : ∀ x y, d = .slice x y → (x.length + y.length) * P.bytesOf e ≤ reachBytes)
    (h : DataW.Trod enc P w 0 (fun _ => true) true t v d ps) : ∃ A c, ∃ zs : List Int, v = .slice A zs.length c ∧ zs.length * P.bytesOf e ≤ 140737488351232 ∧ (∀ z ∈ zs, (Lit.int .i64 z).wf = true) ∧ Rd w A (I zs) := by
  obtain ⟨fuel, hf⟩ := h
  obtain ⟨a', len', cap', rfl⟩ := okWide_slice ht hval
  simp only [Value.cells] at hf
  rcases open_ints ht he hc hf with ⟨h1, h2⟩ | ⟨a, len, cap, zs, h1, hb, hl, hm, hlen, hx, hcell, hwf⟩
  · have hv : Value.slice a' len' cap' = .slice none 0 0 := by simpa using h1
    exact ⟨none, 0, [], hv, by simp, by simp, rd_nil⟩
  · have hv : Value.slice a' len' cap' = .slice (some a) len cap := by simpa using h1
    simp only [Prod.mk.injEq] at hx
    simp only [if_true] at hlen
    refine ⟨some a, cap, zs.take len, ?_, ?_, fun z hz => hwf z (List.mem_of_mem_take hz), ?_⟩
    · rw [hv, List.length_take, hlen, Nat.min_eq_left hl]
    · have := hsz _ _ hx.1
      simp only [lits, List.length_map, List.length_take, List.length_drop, reachBytes] at this
      rw [List.length_take]
      refine Nat.le_trans (Nat.mul_le_mul_right _ ?_) this
      omega
    · refine rd_of fun i v hv => ?_
      simp only [I, List.getElem?_map, List.getElem?_take] at hv
      split at hv
      · cases hz : zs[i]? with
        | none => rw [hz] at hv; simp at hv
        | some z =>
          rw [hz] at hv
          simp only [Option.map_some, Option.some.injEq] at hv
          subst hv
          have := hcell i (List.getElem?_eq_some_iff.1 hz).1
          rw [this]
          simp [List.getD_eq_getElem?_getD, hz]
      · simp at hv

theorem reread (hl : laidOutB P = true) {W W' : World} (hb : Below W.heap.size W W') {sp : Nat → Bool} : ∀ {ts : List TypeId} {vs : List Value} {ds : List (DataW H)} {p : List MemPlace},
    (ts.all fun t => P.readableRec t && decide (t < P.types.size)) = true → DataW.TrodAll enc P W 0 (fun _ => true) true ts vs ds p → (∀ x ∈ p, x.block < W.heap.size) → (∀ x ∈ p, sp x.block = true) → DataW.TrodAll enc P W' 0 sp true ts vs ds p
  | [], vs, ds, p, _, h, _, _ => by
    obtain ⟨rfl, rfl, rfl⟩ := trodAll_nil h
    exact trodAll_mk0
  | t :: ts, vs, ds, p, hr, h, h1, h2 => by
    obtain ⟨v, vs1, d, ds1, a, b, rfl, rfl, rfl, h3, h4⟩ := trodAll_cons h
    simp only [List.all_cons, Bool.and_eq_true, decide_eq_true_eq] at hr
    have h5 := WideElems.Trod_stays (sp' := sp) hl hr.1.1 hr.1.2 h3 (fun x hx => hb.same (h1 x (List.mem_append.2 (.inl hx)))) (fun x hx => h2 x (List.mem_append.2 (.inl hx)))
    have h6 := reread hl hb (sp := sp) (by simpa using hr.2) h4 (fun x hx => h1 x (List.mem_append.2 (.inr hx))) (fun x hx => h2 x (List.mem_append.2 (.inr hx)))
    exact trodAll_cons_mk h5 h6

theorem post_of_grown {f : Func} {s : ChangeSpec} {apart fresh handsOn again : Bool} {W W' : World} {args : Array Value} {v : Value} {ds gs : List (DataW H)} {before pa pv : List MemPlace} (hl : laidOutB P = true)
    (hts : (f.params.toList.all fun t => P.readableRec t && decide (t < P.types.size)) = true)
    (hW : DataW.Whole enc P f.params.toList s.vars apart W args.toList ds gs before)
    (hA : DataW.TrodAll enc P W 0 (fun _ => true) true f.params.toList args.toList ds pa)
    (hres : ∀ (b : Nat) (sp : Nat → Bool) (hd : Bool), DataW.TrodAll enc P W' b sp hd f.resultTypes.toList (v.resultList f.resultTypes.size) (s.fn H (ds ++ gs)).results [])
    (hargs : (s.fn H (ds ++ gs)).args = ds)
    (hvars : ∀ sp : Nat → Bool, (∀ p ∈ before, sp p.block = true) → DataW.TrodVars enc P W' sp s.vars (s.fn H (ds ++ gs)).vars pv)
    (hps : before = pa ++ pv) (hb : Below W.heap.size W W')
    (hok : ∀ (j : Nat) (t : TypeId) (r : Value), f.resultTypes[j]? = some t → (v.resultList f.resultTypes.size)[j]? = some r → Value.okWide P W' .any 0 t r) :
    s.post enc P f apart fresh handsOn again W args v W' := by
  have hlt : ∀ p ∈ before, p.block < W.heap.size := fun p hp => by simpa using hW.lt p hp
  have hold : ∀ p ∈ before, (fun b => decide (b < W.heap.size)) p.block = true := fun p hp => by simpa using hW.lt p hp
  have hlt' : ∀ p ∈ pa, p.block < W.heap.size := fun p hp => hlt p (by rw [hps]; exact List.mem_append.2 (.inl hp))
  have hargs' : ∀ sp : Nat → Bool, (∀ p ∈ before, sp p.block = true) → DataW.TrodAll enc P W' 0 sp true f.params.toList args.toList (s.fn H (ds ++ gs)).args pa := by
    intro sp hsp
    rw [hargs]
    exact reread hl hb hts hA hlt' (fun x hx => hsp x (by rw [hps]; exact List.mem_append.2 (.inl hx)))
  refine ⟨ds, gs, before, [], pa, pv, hW, hres _ _ _, hargs' _ hold, hvars _ hold, World.keptBut_mono (fun p hp => ⟨hp, ?_⟩) (hb.frame (· ∈ before)), fun _ => ?_⟩
  · rw [hps, List.mem_append] at hp
    exact Or.inr hp
  · obtain ⟨_, _, _, _, _, hz, hn⟩ := hW
    refine ⟨hok, _, _, ([] ++ pa) ++ pv, ⟨[] ++ pa, pv, trodAll_append (hargs' _ (fun _ _ => rfl)) (hres _ _ _), hvars _ (fun _ _ => rfl), rfl, ?_, ?_⟩, ?_⟩
    · intro b off hp
      have hp' : MemPlace.cell b off ∈ before := by rw [hps]; simpa using hp
      rw [hb.frozen (hlt _ hp')]
      exact hz b off hp'
    · intro ha
      have := hn ha
      rw [hps] at this
      simpa using this
    · intro p hp _
      rw [hps]
      simpa using hp

end Go.Proofs.YtgeahmmepfmcoaaDoor.L
