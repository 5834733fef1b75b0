/- parts that the proof of BathTours uses -/
import Derived.Test.YtgeahmmepfmcoaaDoorCore
namespace Go.Proofs.YtgeahmmepfmcoaaDoor.L
open Go Go.RowKit
set_option linter.unusedVariables false
set_option linter.unusedSimpArgs false

inductive Cls where
  | p | r | e | w
  | u (post : Value → List Ent → Prop)

def Eff (P : Program) (o : Oper) (a : Act) (w : World) (next : Act → World → Prop) : Prop :=
  (∃ v w', (execOp a.eval o).run P w = .ok (.value v) w' ∧ next (a.put o.dst v) w') ∨
  (∃ w', (execOp a.eval o).run P w = .ok .skip w' ∧ next (a.put o.dst undef) w') ∨
  (∃ f args w', (execOp a.eval o).run P w = .ok (.enter f args) w' ∧ Calls P f args w' fun e w'' => ∃ v, e = .returned v ∧ next (a.put o.dst v) w'')

theorem Eff.wp {P : Program} {o : Oper} {a : Act} {w : World} {next : Act → World → Prop} {Q : Exit → Act → World → Prop} (h : Eff P o a w next) : o.wp P a w next Q := by
  unfold Oper.wp
  rcases h with ⟨v, w', hr, hn⟩ | ⟨w', hr, hn⟩ | ⟨f, args, w', hr, hc⟩
  · rw [hr]; exact hn
  · rw [hr]; exact hn
  · rw [hr]
    refine hc.mono ?_
    rintro e w'' ⟨v, rfl, hn⟩
    exact hn

theorem Eff.mono {P : Program} {o : Oper} {a : Act} {w : World} {N N' : Act → World → Prop} (h : Eff P o a w N) (hn : ∀ a w, N a w → N' a w) : Eff P o a w N' := by
  rcases h with ⟨v, w', hr, k⟩ | ⟨w', hr, k⟩ | ⟨f, args, w', hr, hc⟩
  · exact .inl ⟨v, w', hr, hn _ _ k⟩
  · exact .inr (.inl ⟨w', hr, hn _ _ k⟩)
  · exact .inr (.inr ⟨f, args, w', hr, hc.mono fun e w'' ⟨v, he, k⟩ => ⟨v, he, hn _ _ k⟩⟩)

def Keeps (w0 : World) (Gs G : List Ent) : Prop := ∀ w, St w0 G w → St w0 Gs w

def S1 (P : Program) (ops : Array Oper) (w0 : World) (Gs : List Ent) (c : Cls) (o : Oper) (next : Act → List Ent → Prop) (a : Act) (G : List Ent) : Prop :=
  if Region.wanted o (yielded ops a.tmps) then
    match c with
    | .p => ∃ v, (∀ w', (execOp a.eval o).run P w' = .ok (.value v) w') ∧ next (a.put o.dst v) G
    | .r => ∃ v, (∀ w', St w0 Gs w' → (execOp a.eval o).run P w' = .ok (.value v) w') ∧ next (a.put o.dst v) G
    | .e => ∃ post : Value → List Ent → Prop, (∀ w, St w0 G w → Eff P o a w fun a' w' => ∃ v G', a' = a.put o.dst v ∧ St w0 G' w' ∧ post v G') ∧ ∀ v G' w', post v G' → St w0 G' w' → Keeps w0 Gs G' ∧ next (a.put o.dst v) G'
    | .w => ∃ post : Value → List Ent → Prop, (∀ w, St w0 G w → Eff P o a w fun a' w' => ∃ v G', a' = a.put o.dst v ∧ St w0 G' w' ∧ post v G') ∧ ∀ v G' w', post v G' → St w0 G' w' → next (a.put o.dst v) G'
    | .u post => (∀ G0 w, Keeps w0 Gs G0 → St w0 G0 w → Eff P o a w fun a' w' => ∃ v D, a' = a.put o.dst v ∧ St w0 (D ++ G0) w' ∧ post v D) ∧ Keeps w0 Gs G ∧ ∀ v D w', post v D → St w0 (D ++ G) w' → next (a.put o.dst v) (D ++ G)
  else next (a.put o.dst undef) G

def T (P : Program) (ops : Array Oper) (w0 : World) (Gs : List Ent) (Q : Exit → Act → World → Prop) : List (Cls × Oper) → Act → List Ent → Prop
  | [], a, G => ∀ w, St w0 G w → Q .normal a w
  | x :: rest, a, G => S1 P ops w0 Gs x.1 x.2 (T P ops w0 Gs Q rest) a G

abbrev Md := Option (List Ent × List Cls)

inductive MdStep : Md → Cls → Md → Prop where
  | n (c : Cls) : MdStep none c none
  | s (g : List Ent) (c : Cls) (cs : List Cls) : MdStep (some (g, c :: cs)) c (some (g, cs))

def rd (md : Md) (G : List Ent) : List Ent := match md with | none => G | some x => x.1

def V (P : Program) (ops : Array Oper) (Q : Exit → Act → World → Prop) (md : Md) (l : List Oper) (n : Nat) (K : Slots) (w0 : World) (G : List Ent) : Prop :=
  ∀ a w, Kn n K a → St w0 G w →
    match md with
    | none => wpList P ops Q l a w
    | some x => T P ops w0 x.1 Q (x.2.zip l) a G ∧ x.2.length = l.length

def J (P : Program) (c : Code) (Q : Exit → Act → World → Prop) (n : Nat) (K : Slots) (w0 : World) (G : List Ent) : Prop :=
  ∀ a w, Kn n K a → St w0 G w → c.wp P Q a w

def E (Q : Exit → Act → World → Prop) (e : Exit) (n : Nat) (K : Slots) (w0 : World) (G : List Ent) : Prop :=
  ∀ a w, Kn n K a → St w0 G w → Q e a w

def Then (P : Program) (b : Code) (Q : Exit → Act → World → Prop) : Exit → Act → World → Prop
  | .normal, a, w => b.wp P Q a w
  | e, a, w => Q e a w

def Blk (id : Nat) (Q : Exit → Act → World → Prop) : Exit → Act → World → Prop
  | .exit j, a, w => if j = id then Q .normal a w else Q (.exit j) a w
  | e, a, w => Q e a w

def Lp (R : Act → World → Prop) (Q : Exit → Act → World → Prop) : Exit → Act → World → Prop
  | .normal, a, w => R a w
  | e, a, w => Q e a w

variable {P : Program} {Q : Exit → Act → World → Prop} {n : Nat} {K : Slots} {w0 : World} {G : List Ent}

theorem V_sub {ops : Array Oper} {md : Md} {l : List Oper} (K2 : Slots) (hs : Sub K2 K) (h : V P ops Q md l n K2 w0 G) : V P ops Q md l n K w0 G := fun a w hk hg => h a w (hk.sub hs) hg

theorem J_seq {x y : Code} (h : J P x (Then P y Q) n K w0 G) : J P (.seq x y) Q n K w0 G := by
  intro a w hk hg
  refine wp_seq (wp_mono (h a w hk hg) ?_)
  intro e a w hq
  cases e <;> exact hq

theorem J_block {id : Nat} {c : Code} (h : J P c (Blk id Q) n K w0 G) : J P (.block id c) Q n K w0 G := by
  intro a w hk hg
  refine wp_block (wp_mono (h a w hk hg) ?_)
  intro e a w hq
  cases e <;> exact hq

theorem J_skip (h : E Q .normal n K w0 G) : J P .skip Q n K w0 G := fun a w hk hg => wp_skip (h a w hk hg)
theorem J_exit {id : Nat} (h : E Q (.exit id) n K w0 G) : J P (.exit id) Q n K w0 G := fun a w hk hg => wp_exit (h a w hk hg)
theorem J_ret (h : E Q .ret n K w0 G) : J P .ret Q n K w0 G := fun a w hk hg => wp_ret (h a w hk hg)

theorem J_cond {c : Operand} {x y : Code} {p : Prop} {_ : Decidable p} (hc : ev K c = some (.bool (decide p))) (ht : p → J P x Q n K w0 G) (hf : ¬ p → J P y Q n K w0 G) : J P (.cond c x y) Q n K w0 G := by
  intro a w hk hg
  refine wp_cond_split (hk.eval hc) (fun h => ht (of_decide_eq_true h) a w hk hg) (fun h => hf (of_decide_eq_false h) a w hk hg)

theorem J_condB {c : Operand} {x y : Code} {b : Bool} (hc : ev K c = some (.bool b)) (ht : b = true → J P x Q n K w0 G) (hf : b = false → J P y Q n K w0 G) : J P (.cond c x y) Q n K w0 G := by
  intro a w hk hg
  exact wp_cond_split (hk.eval hc) (fun h => ht h a w hk hg) (fun h => hf h a w hk hg)

theorem J_condT {c : Operand} {x y : Code} (hc : ev K c = some (.bool true)) (ht : J P x Q n K w0 G) : J P (.cond c x y) Q n K w0 G :=
  fun a w hk hg => wp_cond_true (hk.eval hc) (ht a w hk hg)
theorem J_condF {c : Operand} {x y : Code} (hc : ev K c = some (.bool false)) (hf : J P y Q n K w0 G) : J P (.cond c x y) Q n K w0 G :=
  fun a w hk hg => wp_cond_false (hk.eval hc) (hf a w hk hg)

theorem J_region {id : Nat} {l : List Oper} (h : V P l.toArray Q none l n K w0 G) : J P (.region id l.toArray false) Q n K w0 G :=
  fun a w hk hg => wp_region_lit (h a w hk hg)

theorem V_nil {ops : Array Oper} {md : Md} (hm : md = none ∨ ∃ g, md = some (g, [])) (h : E Q .normal n K w0 G) : V P ops Q md [] n K w0 G := by
  intro a w hk hg
  rcases hm with rfl | ⟨g, rfl⟩
  · exact h a w hk hg
  · exact ⟨fun w hw => h a w hk hw, rfl⟩

theorem J_loop {c : Code} {X : Type} (KI : X → Slots) (GI : X → List Ent) (I : X → Prop) (μ : X → Nat) (x0 : X) (hs : Sub (KI x0) K) (hg : ∀ w, St w0 G w → St w0 (GI x0) w) (h0 : I x0)
    (body : ∀ x, I x → J P c (Lp (fun a w => ∃ x', μ x' < μ x ∧ I x' ∧ Kn n (KI x') a ∧ St w0 (GI x') w) Q) n (KI x) w0 (GI x)) : J P (.loop c) Q n K w0 G := by
  intro a w hk hw
  intro b k cs
  have key : ∀ m x a w, μ x = m → I x → Kn n (KI x) a → St w0 (GI x) w →
      ∃ e a' w', Q e a' w' ∧ Arrives P (lone (b.at a (.code c :: .inLoop c :: k)) cs w) b k cs e a' w' := by
    intro m
    induction m using Nat.strongRecOn with
    | _ m ih =>
      intro x a w hm hI hka hwa
      obtain ⟨e, a₁, w₁, hq, harr⟩ := body x hI a w hka hwa b (.inLoop c :: k) cs
      cases e with
      | normal =>
        obtain ⟨x', hlt, hI', hk', hw'⟩ := hq
        obtain ⟨e₂, a₂, w₂, hq₂, harr₂⟩ := ih (μ x') (hm ▸ hlt) x' a₁ w₁ rfl hI' hk' hw'
        exact ⟨e₂, a₂, w₂, hq₂, .of_steps (Steps.trans harr (.one step_inLoop)) harr₂⟩
      | exit id => exact ⟨_, a₁, w₁, hq, .pass (x := .inLoop c) rfl (fun _ _ => .inl (by simp)) harr⟩
      | goto l => exact ⟨_, a₁, w₁, hq, .pass (x := .inLoop c) rfl (fun _ _ => .inl (by simp)) harr⟩
      | ret => exact ⟨_, a₁, w₁, hq, .pass (x := .inLoop c) rfl (fun _ _ => .inl (by simp)) harr⟩
      | panic ch => exact ⟨_, a₁, w₁, hq, .pass (x := .inLoop c) rfl (fun _ _ => .inl (by simp)) harr⟩
      | outgrown => exact ⟨_, a₁, w₁, hq, .pass (x := .inLoop c) rfl (fun _ _ => .inl (by simp)) harr⟩
  obtain ⟨e, a', w', hq, harr⟩ := key _ x0 a w rfl h0 (hk.sub hs) (hg w hw)
  exact ⟨e, a', w', hq, .of_steps (.one step_loop) harr⟩

theorem E_again {X : Type} {KI : X → Slots} {GI : X → List Ent} {I : X → Prop} {μ : X → Nat} {x : X} (x' : X) (hlt : μ x' < μ x) (hI : I x') (hs : Sub (KI x') K) (hg : ∀ w, St w0 G w → St w0 (GI x') w) :
    E (Lp (fun a w => ∃ x', μ x' < μ x ∧ I x' ∧ Kn n (KI x') a ∧ St w0 (GI x') w) Q) .normal n K w0 G :=
  fun _ w hk hw => ⟨x', hlt, hI, hk.sub hs, hg w hw⟩

theorem E_then {b : Code} (h : J P b Q n K w0 G) : E (Then P b Q) .normal n K w0 G := h
theorem E_then_exit {b : Code} {i : Nat} (h : E Q (.exit i) n K w0 G) : E (Then P b Q) (.exit i) n K w0 G := h
theorem E_then_ret {b : Code} (h : E Q .ret n K w0 G) : E (Then P b Q) .ret n K w0 G := h
theorem E_blk {id : Nat} (h : E Q .normal n K w0 G) : E (Blk id Q) .normal n K w0 G := h
theorem E_blk_hit {id : Nat} (h : E Q .normal n K w0 G) : E (Blk id Q) (.exit id) n K w0 G := by
  intro a w hk hg; simp only [Blk, if_true]; exact h a w hk hg
theorem E_blk_exit {id j : Nat} (hne : Nat.beq j id = false) (h : E Q (.exit j) n K w0 G) : E (Blk id Q) (.exit j) n K w0 G := by
  intro a w hk hg
  have : j ≠ id := fun e => by subst e; simp at hne
  simp only [Blk, if_neg this]; exact h a w hk hg
theorem E_blk_ret {id : Nat} (h : E Q .ret n K w0 G) : E (Blk id Q) .ret n K w0 G := h
theorem E_lp_exit {R : Act → World → Prop} {i : Nat} (h : E Q (.exit i) n K w0 G) : E (Lp R Q) (.exit i) n K w0 G := h
theorem E_lp_ret {R : Act → World → Prop} (h : E Q .ret n K w0 G) : E (Lp R Q) .ret n K w0 G := h

def argSlots : Nat → List Value → Slots
  | _, [] => []
  | i, v :: r => (i, v) :: argSlots (i + 1) r

theorem lk_argSlots : ∀ (l : List Value) (i j : Nat) (v : Value), lk (argSlots i l) j = some v → i ≤ j ∧ l[j - i]? = some v
  | [], i, j, v, h => by simp [argSlots, lk] at h
  | x :: l, i, j, v, h => by
    simp only [argSlots, lk] at h
    cases hb : Nat.beq i j with
    | true =>
      rw [hb] at h
      have : i = j := Nat.eq_of_beq_eq_true hb
      subst this
      simp only [cond_true, Option.some.injEq] at h
      subst h; simp
    | false =>
      rw [hb] at h
      obtain ⟨h1, h2⟩ := lk_argSlots l (i + 1) j v h
      refine ⟨by omega, ?_⟩
      have : j - i = (j - (i + 1)) + 1 := by omega
      rw [this, List.getElem?_cons_succ]; exact h2

theorem calls {f : FuncId} {fn : Func} {c : Code} {args : List Value} {w : World} {R : Ending → World → Prop} (hf : P.funcs[f]? = some fn) (hb : fn.body = some c) (hn : fn.ntmps = n) (hlen : args.length ≤ n)
    (hg : St w0 G w) (h : J P c (bodyPost P fn R) n (argSlots 0 args) w0 G) : Calls P f args.toArray w R := by
  refine calls_of_wp hf hb (h _ w ⟨?_, rfl, ?_⟩ hg)
  · simp [hn]; omega
  · intro j v hj
    obtain ⟨_, hj⟩ := lk_argSlots _ _ _ _ hj
    simp only [Nat.sub_zero] at hj
    have hlt : j < args.length := (List.getElem?_eq_some_iff.1 hj).1
    simp [Array.getElem?_append, hlt, (List.getElem?_eq_some_iff.1 hj).2]

theorem E_ret1 {fn : Func} {t : Nat} {v : Value} {R : Ending → World → Prop} (hr : fn.results = #[.tmp t]) (hv : lk K t = some v) (h : ∀ w, St w0 G w → R (.returned v) w) : E (bodyPost P fn R) .ret n K w0 G := by
  intro a w hk hg
  refine ⟨hk.defers, v, ?_, h w hg⟩
  rw [results_tmp hr]
  simp [Array.getD_eq_getD_getElem?, hk.val _ _ hv]

theorem E_ret2 {fn : Func} {t u : Nat} {v x : Value} {R : Ending → World → Prop} (hr : fn.results = #[.tmp t, .tmp u]) (hv : lk K t = some v) (hx : lk K u = some x) (h : ∀ w, St w0 G w → R (.returned (.tuple #[v, x])) w) : E (bodyPost P fn R) .ret n K w0 G := by
  intro a w hk hg
  refine ⟨hk.defers, _, ?_, h w hg⟩
  rw [results_tmp2 hr]
  simp [Array.getD_eq_getD_getElem?, hk.val _ _ hv, hk.val _ _ hx]

theorem E_fall {fn : Func} {R : Ending → World → Prop} (h : E (bodyPost P fn R) .ret n K w0 G) : E (bodyPost P fn R) .normal n K w0 G := h

theorem E_ret0 {fn : Func} {R : Ending → World → Prop} (hr : fn.results = #[]) (h : ∀ w, St w0 G w → R (.returned (.tuple #[])) w) : E (bodyPost P fn R) .ret n K w0 G := by
  intro a w hk hg
  refine ⟨hk.defers, _, ?_, h w hg⟩
  rw [results_none hr]

end Go.Proofs.YtgeahmmepfmcoaaDoor.L
