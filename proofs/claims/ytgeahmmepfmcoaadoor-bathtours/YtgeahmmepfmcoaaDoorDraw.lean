/- parts that the proof of BathTours uses -/
import Derived.Test.YtgeahmmepfmcoaaDoorBase
namespace Go.Proofs.YtgeahmmepfmcoaaDoor.L
open Go Go.RowKit
set_option linter.unusedVariables false
set_option linter.unusedSimpArgs false

def plain : Op → Bool
  | .move _ | .assign _ | .pick .. | .alloc _ | .box .. | .build .. | .buildSlice .. | .load .. | .store .. | .nilCheck _ | .binOp .. | .unOp .. | .convert .. | .makeFunc .. | .makeMap .. | .makeSlice ..
  | .slice .. | .fieldAddr .. | .field .. | .indexAddr .. | .index .. | .lookup .. | .mapUpdate .. | .insert .. | .extract .. | .call _ | .makeInterface .. => true
  | _ => false

theorem execOp_congr {o : Oper} (hp : plain o.op = true) {ρ ρ' : Operand → Value} (h : ∀ x ∈ o.op.operands.toList, ρ x = ρ' x) : execOp ρ o = execOp ρ' o := by
  have map1 : ∀ (xs : Array Operand), (∀ x ∈ xs.toList, ρ x = ρ' x) → xs.map ρ = xs.map ρ' := by
    intro xs hx
    exact Array.map_congr_left fun x hm => hx x (Array.mem_toList_iff.2 hm)
  have map2 : ∀ (ps : Array (Nat × Operand)), (∀ x ∈ ps.toList.map (·.2), ρ x = ρ' x) → ps.map (fun (i, x) => (i, ρ x)) = ps.map (fun (i, x) => (i, ρ' x)) := by
    intro ps hx
    refine Array.map_congr_left fun x hm => ?_
    obtain ⟨i, y⟩ := x
    have := hx y (List.mem_map.2 ⟨(i, y), Array.mem_toList_iff.2 hm, rfl⟩)
    simp [this]
  have mapO : ∀ (x : Option Operand), (∀ y ∈ x.toArray.toList, ρ y = ρ' y) → x.map ρ = x.map ρ' := by
    intro x hx
    cases x with
    | none => rfl
    | some y => simp [hx y (by simp)]
  obtain ⟨dst, op, ty, pos, af, g⟩ := o
  cases op <;> simp only [plain, Bool.false_eq_true] at hp <;> simp only [Op.operands] at h <;> simp only [execOp]
  case move x => rw [h x (by simp)]
  case assign x => rw [h x (by simp)]
  case pick c a b => rw [h c (by simp), h a (by simp), h b (by simp)]
  case box t x => rw [h x (by simp)]
  case build t ps => rw [map2 ps (by simpa using h)]
  case buildSlice t l ps => rw [map2 ps (by simpa using h)]
  case load t x => rw [h x (by simp)]
  case store t x y => rw [h x (by simp), h y (by simp)]
  case nilCheck x => rw [h x (by simp)]
  case binOp op t x y u => rw [h x (by simp), h y (by simp)]
  case unOp op t x => rw [h x (by simp)]
  case convert s t x => rw [h x (by simp)]
  case makeInterface t x => rw [h x (by simp)]
  case makeFunc fn xs ys =>
    rw [map1 xs (fun x hx => h x (by simp at hx ⊢; exact .inl hx)), map1 ys (fun x hx => h x (by simp at hx ⊢; exact .inr hx))]
  case makeMap t r => rw [mapO r (by simpa using h)]
  case makeSlice t x y => rw [h x (by simp), h y (by simp)]
  case slice t x a b c =>
    rw [h x (by simp), mapO a (fun y hy => h y (by simp at hy ⊢; simp [hy])), mapO b (fun y hy => h y (by simp at hy ⊢; simp [hy])), mapO c (fun y hy => h y (by simp at hy ⊢; simp [hy]))]
  case fieldAddr t x i => rw [h x (by simp)]
  case field t x i => rw [h x (by simp)]
  case indexAddr t x y => rw [h x (by simp), h y (by simp)]
  case index t x y => rw [h x (by simp), h y (by simp)]
  case lookup t x y b => rw [h x (by simp), h y (by simp)]
  case mapUpdate t x y z => rw [h x (by simp), h y (by simp), h z (by simp)]
  case insert t x y z => rw [h x (by simp), h y (by simp), h z (by simp)]
  case extract x i => rw [h x (by simp)]
  case call c =>
    obtain ⟨cal, args, ats⟩ := c
    simp only [Call.operands] at h
    have ha : args.map ρ = args.map ρ' := map1 args (fun x hx => h x (by simp at hx ⊢; exact .inr hx))
    cases cal with
    | value f => simp only [resolve, ha]; rw [h f (by simp)]
    | invoke r m => simp only [resolve, ha]; rw [h r (by simp)]
    | builtin b => simp only [resolve, ha]

def opSlots : Operand → List Nat
  | .tmp t => [t]
  | _ => []

def gslot (l : List Oper) (o : Oper) : List Nat :=
  match o.guard with
  | none => []
  | some g => match (l[g.1]?).bind (·.dst) with | some d => [d] | none => []

def rds (l : List Oper) (o : Oper) : List Nat := o.op.operands.toList.flatMap opSlots ++ gslot l o

theorem exec_put {l : List Oper} {o : Oper} (hp : plain o.op = true) {a : Act} {d : Option Nat} {v : Value} (hd : ∀ s, d = some s → s ∉ rds l o) : execOp (a.put d v).eval o = execOp a.eval o := by
  refine execOp_congr hp fun x hx => ?_
  cases x with
  | tmp t =>
    cases d with
    | none => rfl
    | some s =>
      have hne : s ≠ t := by
        rintro rfl
        exact hd s rfl (List.mem_append.2 (.inl (List.mem_flatMap.2 ⟨_, hx, by simp [opSlots]⟩)))
      simp [Act.eval, Act.put, Array.getD_eq_getD_getElem?, hne]
  | const c => rfl
  | global g => rfl
  | func f => rfl

theorem wanted_put {l : List Oper} {o : Oper} {a : Act} {d : Option Nat} {v : Value} (hd : ∀ s, d = some s → s ∉ rds l o) : Region.wanted o (yielded l.toArray (a.put d v).tmps) = Region.wanted o (yielded l.toArray a.tmps) := by
  cases d with
  | none => rfl
  | some s =>
    have hs := hd s rfl
    unfold Region.wanted
    cases hg : o.guard with
    | none => rfl
    | some g =>
      obtain ⟨j, want⟩ := g
      have : yielded l.toArray (a.put (some s) v).tmps j = yielded l.toArray a.tmps j := by
        unfold yielded
        simp only [List.getElem?_toArray]
        cases hj : (l[j]?).bind (·.dst) with
        | none => rfl
        | some t =>
          have hne : s ≠ t := by
            rintro rfl
            exact hs (List.mem_append.2 (.inr (by simp [gslot, hg, hj])))
          simp [Act.put, hne]
      simp [this]

theorem put_comm (a : Act) {d e : Option Nat} (h : ∀ s t, d = some s → e = some t → s ≠ t) (u v : Value) : (a.put d u).put e v = (a.put e v).put d u := by
  cases d with
  | none => rfl
  | some s =>
    cases e with
    | none => rfl
    | some t =>
      have := h s t rfl rfl
      simp [Act.put, Array.setIfInBounds_comm _ _ this]

structure Indep (l : List Oper) (p k : Oper) : Prop where
  pk : ∀ s, p.dst = some s → s ∉ rds l k
  kp : ∀ s, k.dst = some s → s ∉ rds l p
  dd : ∀ s t, p.dst = some s → k.dst = some t → s ≠ t

def compat : Cls → Cls → Bool
  | .p, _ | _, .p => true
  | .r, .r | .r, .e | .e, .r => true
  | .r, .u _ | .u _, .r | .u _, .u _ => true
  | _, _ => false

variable {P : Program} {Q : Exit → Act → World → Prop} {w0 : World} {Gs : List Ent} {l : List Oper}

def Live (w0 : World) (G : List Ent) : Prop := ∃ w, St w0 G w
def PermC (N : Act → List Ent → Prop) : Prop := ∀ a G G2, G2.Perm G → N a G → N a G2

theorem S1_mono {c : Cls} {o : Oper} {N N' : Act → List Ent → Prop} (hn : ∀ a G, Live w0 G → N a G → N' a G) {a : Act} {G : List Ent} (hG : Live w0 G) (h : S1 P l.toArray w0 Gs c o N a G) : S1 P l.toArray w0 Gs c o N' a G := by
  unfold S1 at *
  split
  · rename_i hw
    rw [if_pos hw] at h
    cases c with
    | p => obtain ⟨v, h1, h2⟩ := h; exact ⟨v, h1, hn _ _ hG h2⟩
    | r => obtain ⟨v, h1, h2⟩ := h; exact ⟨v, h1, hn _ _ hG h2⟩
    | e => obtain ⟨post, h1, h2⟩ := h; exact ⟨post, h1, fun v G' w' hp hw' => ⟨(h2 v G' w' hp hw').1, hn _ _ ⟨w', hw'⟩ (h2 v G' w' hp hw').2⟩⟩
    | w => obtain ⟨post, h1, h2⟩ := h; exact ⟨post, h1, fun v G' w' hp hw' => hn _ _ ⟨w', hw'⟩ (h2 v G' w' hp hw')⟩
    | u post => exact ⟨h.1, h.2.1, fun v D w' hp hw' => hn _ _ ⟨w', hw'⟩ (h.2.2 v D w' hp hw')⟩
  · rename_i hw
    rw [if_neg hw] at h
    exact hn _ _ hG h

theorem S1_perm {c : Cls} {o : Oper} {N : Act → List Ent → Prop} (hN : PermC N) : PermC (S1 P l.toArray w0 Gs c o N) := by
  intro a G G2 hp h
  unfold S1 at *
  split
  · rename_i hw
    rw [if_pos hw] at h
    cases c with
    | p => obtain ⟨v, h1, h2⟩ := h; exact ⟨v, h1, hN _ _ _ hp h2⟩
    | r => obtain ⟨v, h1, h2⟩ := h; exact ⟨v, h1, hN _ _ _ hp h2⟩
    | e => obtain ⟨post, h1, h2⟩ := h; exact ⟨post, fun w hw => h1 w (hw.perm hp.symm), h2⟩
    | w => obtain ⟨post, h1, h2⟩ := h; exact ⟨post, fun w hw => h1 w (hw.perm hp.symm), h2⟩
    | u post => exact ⟨h.1, fun w hw => h.2.1 w (hw.perm hp.symm), fun v D w' hq hw' => hN _ _ _ (hp.append_left D) (h.2.2 v D w' hq (hw'.perm (hp.append_left D).symm))⟩
  · rename_i hw
    rw [if_neg hw] at h
    exact hN _ _ _ hp h

theorem T_perm : ∀ (L : List (Cls × Oper)), PermC (T P l.toArray w0 Gs Q L)
  | [] => fun a G G2 hp h w hw => h w (hw.perm hp.symm)
  | x :: L => S1_perm (T_perm L)

def Gives (P : Program) (w0 : World) (Gs : List Ent) (l : List Oper) (c : Cls) (o : Oper) (a : Act) (v : Value) : Prop :=
  if Region.wanted o (yielded l.toArray a.tmps) then
    match c with
    | .p => ∀ w', (execOp a.eval o).run P w' = .ok (.value v) w'
    | .r => ∀ w', St w0 Gs w' → (execOp a.eval o).run P w' = .ok (.value v) w'
    | _ => False
  else v = undef

theorem Gives.put {c : Cls} {o : Oper} {a : Act} {v : Value} (hp : plain o.op = true) {d : Option Nat} {u : Value} (hd : ∀ s, d = some s → s ∉ rds l o) : Gives P w0 Gs l c o (a.put d u) v ↔ Gives P w0 Gs l c o a v := by
  unfold Gives
  rw [wanted_put hd, exec_put hp hd]

theorem S1_quiet {c : Cls} (hc : c = .p ∨ c = .r) {o : Oper} {N : Act → List Ent → Prop} {a : Act} {G : List Ent} : S1 P l.toArray w0 Gs c o N a G ↔ ∃ v, Gives P w0 Gs l c o a v ∧ N (a.put o.dst v) G := by
  unfold S1 Gives
  constructor
  · intro h
    split at h
    · rename_i hw
      rcases hc with rfl | rfl
      · obtain ⟨v, h1, h2⟩ := h; exact ⟨v, by rw [if_pos hw]; exact h1, h2⟩
      · obtain ⟨v, h1, h2⟩ := h; exact ⟨v, by rw [if_pos hw]; exact h1, h2⟩
    · rename_i hw
      exact ⟨undef, by rw [if_neg hw], h⟩
  · rintro ⟨v, h1, h2⟩
    split
    · rename_i hw
      rw [if_pos hw] at h1
      rcases hc with rfl | rfl
      · exact ⟨v, h1, h2⟩
      · exact ⟨v, h1, h2⟩
    · rename_i hw
      rw [if_neg hw] at h1
      subst h1; exact h2

theorem S1_skip {c : Cls} {o : Oper} {N : Act → List Ent → Prop} {a : Act} {G : List Ent} (hw : ¬ Region.wanted o (yielded l.toArray a.tmps) = true) : S1 P l.toArray w0 Gs c o N a G ↔ N (a.put o.dst undef) G := by
  unfold S1; rw [if_neg hw]

theorem Eff.out {o : Oper} {a : Act} {w : World} {N : Act → World → Prop} (h : Eff P o a w N) : ∃ v w', N (a.put o.dst v) w' := by
  rcases h with ⟨v, w', _, h⟩ | ⟨w', _, h⟩ | ⟨f, args, w', _, hc⟩
  · exact ⟨v, w', h⟩
  · exact ⟨_, w', h⟩
  · obtain ⟨e, w'', fr, ⟨v, _, h⟩, _⟩ := hc []
    exact ⟨v, w'', h⟩

theorem put_same {a : Act} {d e : Option Nat} {u v v' : Value} (hd : ∀ s t, d = some s → e = some t → s ≠ t) (h : (a.put d u).put e v' = (a.put d u).put e v) : a.put e v' = a.put e v := by
  cases e with
  | none => rfl
  | some t =>
    have hs : (a.put d u).tmps.size = a.tmps.size := by cases d <;> simp [Act.put]
    by_cases ht : t < a.tmps.size
    · have h1 := congrArg (fun x => x.tmps[t]?) h
      have h2 : ∀ z, ((a.put d u).put (some t) z).tmps[t]? = some z := by
        intro z
        have : t < (a.put d u).tmps.size := by omega
        generalize a.put d u = b at *
        simp [Act.put, this]
      simp only [h2, Option.some.injEq] at h1
      rw [h1]
    · have : ∀ z, a.put (some t) z = a := by
        intro z
        simp [Act.put, Array.setIfInBounds_eq_of_size_le (by omega : a.tmps.size ≤ t)]
      rw [this, this]

theorem Eff.un {k : Oper} (hk : plain k.op = true) {a : Act} {w : World} {d : Option Nat} {u : Value} (hd : ∀ s, d = some s → s ∉ rds l k) (hdd : ∀ s t, d = some s → k.dst = some t → s ≠ t) {R : Value → List Ent → World → Prop}
    (h : Eff P k (a.put d u) w fun a' w' => ∃ v D, a' = (a.put d u).put k.dst v ∧ R v D w') : Eff P k a w fun a' w' => ∃ v D, a' = a.put k.dst v ∧ R v D w' := by
  unfold Eff at *
  rw [exec_put (l := l) hk hd] at h
  rcases h with ⟨v, w', hr, v', D, e, h⟩ | ⟨w', hr, v', D, e, h⟩ | ⟨f, args, w', hr, h⟩
  · exact .inl ⟨v, w', hr, v', D, put_same hdd e, h⟩
  · exact .inr (.inl ⟨w', hr, v', D, put_same hdd e, h⟩)
  · exact .inr (.inr ⟨f, args, w', hr, h.mono fun e w'' ⟨v, he, v', D, e', h⟩ => ⟨v, he, v', D, put_same hdd e', h⟩⟩)
theorem Eff.re {k : Oper} (hk : plain k.op = true) {a : Act} {w : World} {d : Option Nat} {u : Value} (hd : ∀ s, d = some s → s ∉ rds l k) (hdd : ∀ s t, d = some s → k.dst = some t → s ≠ t) {R : Value → List Ent → World → Prop}
    (h : Eff P k a w fun a' w' => ∃ v D, a' = a.put k.dst v ∧ R v D w') : Eff P k (a.put d u) w fun a' w' => ∃ v D, a' = (a.put d u).put k.dst v ∧ R v D w' := by
  have hc : ∀ v, (a.put d u).put k.dst v = (a.put k.dst v).put d u := fun v => put_comm a hdd u v
  unfold Eff at *
  rw [exec_put (l := l) hk hd]
  rcases h with ⟨v, w', hr, v', D, e, h⟩ | ⟨w', hr, v', D, e, h⟩ | ⟨f, args, w', hr, h⟩
  · exact .inl ⟨v, w', hr, v', D, by rw [hc, hc, e], h⟩
  · exact .inr (.inl ⟨w', hr, v', D, by rw [hc, hc, e], h⟩)
  · exact .inr (.inr ⟨f, args, w', hr, h.mono fun e w'' ⟨v, he, v', D, e', h⟩ => ⟨v, he, v', D, by rw [hc, hc, e'], h⟩⟩)

theorem swap {cp ck : Cls} {p k : Oper} (hp : plain p.op = true) (hk : plain k.op = true) (hi : Indep l p k) (hc : compat cp ck = true) {N : Act → List Ent → Prop} (hN : PermC N) {a : Act} {G : List Ent} (hG : Live w0 G)
    (h : S1 P l.toArray w0 Gs cp p (S1 P l.toArray w0 Gs ck k N) a G) : S1 P l.toArray w0 Gs ck k (S1 P l.toArray w0 Gs cp p N) a G := by
  have hdd' : ∀ s t, k.dst = some s → p.dst = some t → s ≠ t := fun s t hs ht e => hi.dd t s ht hs e.symm
  by_cases qp : cp = .p ∨ cp = .r
  · -- p is quiet
    obtain ⟨vp, g, h⟩ := (S1_quiet qp).1 h
    by_cases qk : ck = .p ∨ ck = .r
    · obtain ⟨vk, gk, h⟩ := (S1_quiet qk).1 h
      refine (S1_quiet qk).2 ⟨vk, (Gives.put hk hi.pk).1 gk, (S1_quiet qp).2 ⟨vp, (Gives.put hp hi.kp).2 g, ?_⟩⟩
      rw [put_comm a hdd']; exact h
    · -- k acts
      by_cases hw : Region.wanted k (yielded l.toArray a.tmps) = true
      · have hw' : Region.wanted k (yielded l.toArray (a.put p.dst vp).tmps) = true := by rw [wanted_put hi.pk]; exact hw
        have key : ∀ v G', N ((a.put p.dst vp).put k.dst v) G' → S1 P l.toArray w0 Gs cp p N (a.put k.dst v) G' := by
          intro v G' hN
          refine (S1_quiet qp).2 ⟨vp, (Gives.put hp hi.kp).2 g, ?_⟩
          rw [put_comm a hdd']; exact hN
        unfold S1 at h ⊢
        rw [if_pos hw'] at h
        rw [if_pos hw]
        cases ck with
        | p => exact (qk (.inl rfl)).elim
        | r => exact (qk (.inr rfl)).elim
        | e =>
          obtain ⟨post, h1, h2⟩ := h
          exact ⟨post, fun w hw => Eff.un (l := l) hk hi.pk hi.dd (h1 w hw), fun v G' w' hp hw' => ⟨(h2 v G' w' hp hw').1, key v G' (h2 v G' w' hp hw').2⟩⟩
        | w =>
          obtain ⟨post, h1, h2⟩ := h
          exact ⟨post, fun w hw => Eff.un (l := l) hk hi.pk hi.dd (h1 w hw), fun v G' w' hp hw' => key v G' (h2 v G' w' hp hw')⟩
        | u post => exact ⟨fun G0 w h0 hw => Eff.un (l := l) hk hi.pk hi.dd (h.1 G0 w h0 hw), h.2.1, fun v D w' hp hw' => key v _ (h.2.2 v D w' hp hw')⟩
      · have hw' : ¬ Region.wanted k (yielded l.toArray (a.put p.dst vp).tmps) = true := by rw [wanted_put hi.pk]; exact hw
        rw [S1_skip hw'] at h
        rw [S1_skip hw]
        refine (S1_quiet qp).2 ⟨vp, (Gives.put hp hi.kp).2 g, ?_⟩
        rw [put_comm a hdd']; exact h
  · -- p acts, so k is quiet, or both act beside each other
    by_cases qk' : ck = .p ∨ ck = .r
    · by_cases hw : Region.wanted p (yielded l.toArray a.tmps) = true
      · -- the value of k, out of one outcome of p
        have same : ∀ {v : Value} {w' : World} {u u' : Value}, (ck = .r → St w0 Gs w') → Gives P w0 Gs l ck k a u → Gives P w0 Gs l ck k (a.put p.dst v) u' → u' = u := by
          intro v w' u u' hS h1 h2
          rw [Gives.put hk hi.pk] at h2
          unfold Gives at h1 h2
          split at h1
          · rename_i hwk
            rw [if_pos hwk] at h2
            rcases qk' with rfl | rfl
            · have e := (h2 w').symm.trans (h1 w')
              injection e with e _; injection e
            · have e := (h2 w' (hS rfl)).symm.trans (h1 w' (hS rfl))
              injection e with e _; injection e
          · rename_i hwk
            rw [if_neg hwk] at h2
            rw [h1, h2]
        unfold S1 at h
        rw [if_pos hw] at h
        obtain ⟨w, hGw⟩ := hG
        cases cp with
        | p => exact (qp (.inl rfl)).elim
        | r => exact (qp (.inr rfl)).elim
        | e =>
          obtain ⟨post, h1, h2⟩ := h
          obtain ⟨_, w', v, G', _, hw', hpo⟩ := Eff.out (h1 w hGw)
          obtain ⟨hK, hk1⟩ := h2 v G' w' hpo hw'
          obtain ⟨vk, gk, _⟩ := (S1_quiet qk').1 hk1
          have gk' := (Gives.put hk hi.pk).1 gk
          refine (S1_quiet qk').2 ⟨vk, gk', ?_⟩
          have hw2 : Region.wanted p (yielded l.toArray (a.put k.dst vk).tmps) = true := by rw [wanted_put hi.kp]; exact hw
          unfold S1
          rw [if_pos hw2]
          refine ⟨post, fun w hw => Eff.re (l := l) hp hi.kp hdd' (h1 w hw), fun v G' w' hpo hw' => ?_⟩
          obtain ⟨hK, hk1⟩ := h2 v G' w' hpo hw'
          obtain ⟨u', g', hNN⟩ := (S1_quiet qk').1 hk1
          have := same (w' := w') (fun _ => hK w' hw') gk' g'
          subst this
          rw [put_comm a hdd']
          exact ⟨hK, hNN⟩
        | w =>
          have qk2 : ck = .p := by rcases qk' with h | rfl; exact h; simp [compat] at hc
          obtain ⟨post, h1, h2⟩ := h
          obtain ⟨_, w', v, G', _, hw', hpo⟩ := Eff.out (h1 w hGw)
          obtain ⟨vk, gk, _⟩ := (S1_quiet qk').1 (h2 v G' w' hpo hw')
          have gk' := (Gives.put hk hi.pk).1 gk
          refine (S1_quiet qk').2 ⟨vk, gk', ?_⟩
          have hw2 : Region.wanted p (yielded l.toArray (a.put k.dst vk).tmps) = true := by rw [wanted_put hi.kp]; exact hw
          unfold S1
          rw [if_pos hw2]
          refine ⟨post, fun w hw => Eff.re (l := l) hp hi.kp hdd' (h1 w hw), fun v G' w' hpo hw' => ?_⟩
          obtain ⟨u', g', hNN⟩ := (S1_quiet qk').1 (h2 v G' w' hpo hw')
          have := same (w' := w') (fun e => by rw [qk2] at e; cases e) gk' g'
          subst this
          rw [put_comm a hdd']
          exact hNN
        | u post =>
          obtain ⟨h1, hKG, h2⟩ := h
          obtain ⟨_, w', v, D, _, hw', hpo⟩ := Eff.out (h1 G w hKG hGw)
          have hK : ∀ D w', St w0 (D ++ G) w' → St w0 Gs w' := fun D w' hw' => hKG w' (hw'.sublist (List.sublist_append_right _ _))
          obtain ⟨vk, gk, _⟩ := (S1_quiet qk').1 (h2 v D w' hpo hw')
          have gk' := (Gives.put hk hi.pk).1 gk
          refine (S1_quiet qk').2 ⟨vk, gk', ?_⟩
          have hw2 : Region.wanted p (yielded l.toArray (a.put k.dst vk).tmps) = true := by rw [wanted_put hi.kp]; exact hw
          unfold S1
          rw [if_pos hw2]
          refine ⟨fun G0 w h0 hw => Eff.re (l := l) hp hi.kp hdd' (h1 G0 w h0 hw), hKG, fun v D w' hpo hw' => ?_⟩
          obtain ⟨u', g', hNN⟩ := (S1_quiet qk').1 (h2 v D w' hpo hw')
          have := same (w' := w') (fun _ => hK D w' hw') gk' g'
          subst this
          rw [put_comm a hdd']
          exact hNN
      · rw [S1_skip hw] at h
        obtain ⟨vk, gk, h⟩ := (S1_quiet qk').1 h
        refine (S1_quiet qk').2 ⟨vk, (Gives.put hk hi.pk).1 gk, ?_⟩
        have hw2 : ¬ Region.wanted p (yielded l.toArray (a.put k.dst vk).tmps) = true := by rw [wanted_put hi.kp]; exact hw
        rw [S1_skip hw2, put_comm a hdd']; exact h
    · obtain ⟨⟨pp, rfl⟩, ⟨pk, rfl⟩⟩ : (∃ pp, cp = .u pp) ∧ ∃ pk, ck = .u pk := by
        cases cp <;> cases ck <;> simp_all [compat]
      by_cases hw : Region.wanted p (yielded l.toArray a.tmps) = true
      · by_cases hwk : Region.wanted k (yielded l.toArray a.tmps) = true
        · have hw2 : ∀ v, Region.wanted p (yielded l.toArray (a.put k.dst v).tmps) = true := fun v => by rw [wanted_put hi.kp]; exact hw
          have hwk2 : ∀ v, Region.wanted k (yielded l.toArray (a.put p.dst v).tmps) = true := fun v => by rw [wanted_put hi.pk]; exact hwk
          unfold S1 at h ⊢
          rw [if_pos hw] at h
          rw [if_pos hwk]
          obtain ⟨w, hGw⟩ := hG
          obtain ⟨h1, hKG, h2⟩ := h
          simp only [hwk2, if_true] at h2
          obtain ⟨_, w', v, D, _, hw', hpo⟩ := Eff.out (h1 G w hKG hGw)
          refine ⟨fun G0 w h0 hw => Eff.un (l := l) hk hi.pk hi.dd ((h2 v D w' hpo hw').1 G0 w h0 hw), hKG, fun v2 D2 w2 hp2 hs2 => ?_⟩
          simp only [hw2, if_true]
          refine ⟨fun G0 w h0 hw => Eff.re (l := l) hp hi.kp hdd' (h1 G0 w h0 hw), fun w hw => hKG w (hw.sublist (List.sublist_append_right _ _)), fun v1 D1 w1 hp1 hs1 => ?_⟩
          have hperm : (D2 ++ (D1 ++ G)).Perm (D1 ++ (D2 ++ G)) := by
            rw [← List.append_assoc, ← List.append_assoc]
            exact List.Perm.append_right G List.perm_append_comm
          have hs3 : St w0 (D1 ++ G) w1 := hs1.sublist (List.Sublist.append (List.Sublist.refl _) (List.sublist_append_right _ _))
          have := (h2 v1 D1 w1 hp1 hs3).2.2 v2 D2 w1 hp2 (hs1.perm hperm)
          rw [put_comm a hdd']
          exact hN _ _ _ hperm.symm this
        · have hwk2 : ∀ v, ¬ Region.wanted k (yielded l.toArray (a.put p.dst v).tmps) = true := fun v => by rw [wanted_put hi.pk]; exact hwk
          have hw2 : Region.wanted p (yielded l.toArray (a.put k.dst undef).tmps) = true := by rw [wanted_put hi.kp]; exact hw
          rw [S1_skip hwk]
          unfold S1 at h ⊢
          rw [if_pos hw] at h
          rw [if_pos hw2]
          obtain ⟨h1, hKG, h2⟩ := h
          simp only [hwk2, if_false] at h2
          refine ⟨fun G0 w h0 hw => Eff.re (l := l) hp hi.kp hdd' (h1 G0 w h0 hw), hKG, fun v D w' hpo hw' => ?_⟩
          rw [put_comm a hdd']
          exact h2 v D w' hpo hw'
      · rw [S1_skip hw] at h
        have hw2 : ∀ v, ¬ Region.wanted p (yielded l.toArray (a.put k.dst v).tmps) = true := fun v => by rw [wanted_put hi.kp]; exact hw
        by_cases hwk : Region.wanted k (yielded l.toArray a.tmps) = true
        · have hwk2 : Region.wanted k (yielded l.toArray (a.put p.dst undef).tmps) = true := by rw [wanted_put hi.pk]; exact hwk
          unfold S1 at h ⊢
          rw [if_pos hwk2] at h
          rw [if_pos hwk]
          obtain ⟨h1, hKG, h2⟩ := h
          simp only [hw2, if_false]
          refine ⟨fun G0 w h0 hw => Eff.un (l := l) hk hi.pk hi.dd (h1 G0 w h0 hw), hKG, fun v D w' hpo hw' => ?_⟩
          rw [put_comm a hdd']
          exact h2 v D w' hpo hw'
        · have hwk2 : ¬ Region.wanted k (yielded l.toArray (a.put p.dst undef).tmps) = true := by rw [wanted_put hi.pk]; exact hwk
          rw [S1_skip hwk2] at h
          rw [S1_skip hwk, S1_skip (hw2 _), put_comm a hdd']
          exact h

theorem T_mono {x : Cls × Oper} {X Y : List (Cls × Oper)} (h : ∀ a G, Live w0 G → T P l.toArray w0 Gs Q X a G → T P l.toArray w0 Gs Q Y a G) {a : Act} {G : List Ent} (hG : Live w0 G) (hT : T P l.toArray w0 Gs Q (x :: X) a G) : T P l.toArray w0 Gs Q (x :: Y) a G :=
  S1_mono h hG hT

theorem front (k : Cls × Oper) (hk : plain k.2.op = true) : ∀ (pre post : List (Cls × Oper)), (∀ p ∈ pre, plain p.2.op = true ∧ Indep l p.2 k.2 ∧ compat p.1 k.1 = true) → ∀ a G, Live w0 G → T P l.toArray w0 Gs Q (pre ++ k :: post) a G → T P l.toArray w0 Gs Q (k :: (pre ++ post)) a G
  | [], post, _, a, G, _, h => h
  | p :: pre, post, hc, a, G, hG, h => by
    have h1 : T P l.toArray w0 Gs Q (p :: (k :: (pre ++ post))) a G := T_mono (front k hk pre post fun q hq => hc q (by simp [hq])) hG h
    obtain ⟨c1, c2, c3⟩ := hc p (by simp)
    exact swap c1 hk c2 c3 (T_perm _) hG h1

end Go.Proofs.YtgeahmmepfmcoaaDoor.L
