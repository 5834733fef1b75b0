/- parts that the proof of BathTours uses -/
import Derived.Test.YtgeahmmepfmcoaaDoorCore2
import Derived.WalkKit
import Derived.WideShapes
import Derived.Lib.SmallJoins
namespace Go.Proofs.YtgeahmmepfmcoaaDoor.L
open Go Go.RowKit
set_option linter.unusedVariables false
set_option linter.unusedSimpArgs false

variable {P : Program} {Q : Exit → Act → World → Prop} {n : Nat} {K : Slots} {w0 : World} {G : List Ent}
variable {ops : Array Oper} {md md' : Md} {rest : List Oper} {d : Nat} {ty : TypeId} {pos : String} {af : Array Edge}

def QP (P : Program) (o : Oper) (n : Nat) (K : Slots) (v : Value) : Prop := ∀ a, Kn n K a → ∀ w, (execOp a.eval o).run P w = .ok (.value v) w
def QF (P : Program) (o : Oper) (n : Nat) (K : Slots) (w0 : World) (G : List Ent) (v : Value) : Prop := ∀ a w, Kn n K a → St w0 G w → (execOp a.eval o).run P w = .ok (.value v) w
def Keep (md : Md) (G' : List Ent) : Prop := match md with | none => True | some x => ∀ w0 w, St w0 G' w → St w0 x.1 w
def EF (P : Program) (o : Oper) (n : Nat) (K : Slots) (w0 : World) (G : List Ent) (post : Value → List Ent → Prop) : Prop :=
  ∀ a w, Kn n K a → St w0 G w → Eff P o a w fun a' w' => ∃ v G', a' = a.put o.dst v ∧ St w0 G' w' ∧ post v G'

theorem EF.mono {o : Oper} {post post' : Value → List Ent → Prop} (h : EF P o n K w0 G post) (hp : ∀ v G', post v G' → post' v G') : EF P o n K w0 G post' :=
  fun a w hk hw => (h a w hk hw).mono fun a' w' ⟨v, G', e, hw', k⟩ => ⟨v, G', e, hw', hp v G' k⟩

theorem wanted_none {o : Oper} (h : o.guard = none) (y : Nat → Option Bool) : Region.wanted o y = true := by simp [Region.wanted, h]

theorem V_pure {o : Oper} {v : Value} (m : MdStep md .p md') (hdst : o.dst = some d) (hg : o.guard = none) (hd : Nat.blt d n = true) (hq : QP P o n K v)
    (k : V P ops Q md' rest n ((d, v) :: K) w0 G) : V P ops Q md (o :: rest) n K w0 G := by
  intro a w hk hw
  have hdn : d < n := by simpa using hd
  have hr := hq a hk
  have hput : Kn n ((d, v) :: K) (a.put o.dst v) := by rw [hdst]; exact hk.put hdn
  cases m with
  | n =>
    refine wpList_plain hg fun K' hK' => ?_
    have := k _ w hput hw
    simp only [Oper.wp, hr, Oper.upon_value]
    exact hK' _ _ this
  | s g c cs =>
    obtain ⟨h1, h2⟩ := k _ w hput hw
    refine ⟨?_, by simp [h2]⟩
    simp only [List.zip_cons_cons, T, S1, wanted_none hg, if_true]
    exact ⟨v, hr, h1⟩

theorem V_read {o : Oper} {v : Value} (m : MdStep md .r md') (hdst : o.dst = some d) (hg : o.guard = none) (hd : Nat.blt d n = true) (hq : QF P o n K w0 (rd md G) v)
    (k : V P ops Q md' rest n ((d, v) :: K) w0 G) : V P ops Q md (o :: rest) n K w0 G := by
  intro a w hk hw
  have hdn : d < n := by simpa using hd
  have hput : Kn n ((d, v) :: K) (a.put o.dst v) := by rw [hdst]; exact hk.put hdn
  cases m with
  | n =>
    refine wpList_plain hg fun K' hK' => ?_
    have := k _ w hput hw
    simp only [Oper.wp, hq a w hk hw, Oper.upon_value]
    exact hK' _ _ this
  | s g c cs =>
    obtain ⟨h1, h2⟩ := k _ w hput hw
    refine ⟨?_, by simp [h2]⟩
    simp only [List.zip_cons_cons, T, S1, wanted_none hg, if_true]
    exact ⟨v, fun w' hw' => hq a w' hk hw', h1⟩

theorem Kn.putO {a : Act} (hk : Kn n K a) {o : Oper} {v : Value} (hd : o.dst.all (Nat.blt · n) = true) : Kn n (match o.dst with | some d => (d, v) :: K | none => K) (a.put o.dst v) := by
  cases h : o.dst with
  | none => exact hk
  | some d => rw [h] at hd; exact hk.put (by simpa using hd)

theorem V_act {o : Oper} {post : Value → List Ent → Prop} (m : MdStep md .e md') (hg : o.guard = none) (hd : o.dst.all (Nat.blt · n) = true) (hq : EF P o n K w0 G post) (hs : ∀ v G', post v G' → Keep md G')
    (k : ∀ v G', post v G' → V P ops Q md' rest n (match o.dst with | some d => (d, v) :: K | none => K) w0 G') : V P ops Q md (o :: rest) n K w0 G := by
  intro a w hk hw
  have he := hq a w hk hw
  cases m with
  | n =>
    refine wpList_plain hg fun K' hK' => ?_
    refine Eff.wp (he.mono ?_)
    rintro a' w' ⟨v, G', rfl, hw', hp⟩
    exact hK' _ _ (k v G' hp _ w' (hk.putO hd) hw')
  | s g c cs =>
    have hlen : cs.length = rest.length := by
      obtain ⟨a', w', h⟩ : ∃ a' w', ∃ v G', a' = a.put o.dst v ∧ St w0 G' w' ∧ post v G' := by
        rcases he with ⟨v, w', _, h⟩ | ⟨w', _, h⟩ | ⟨f, args, w', _, hc⟩
        · exact ⟨_, _, h⟩
        · exact ⟨_, _, h⟩
        · obtain ⟨e, w'', fr, ⟨v, _, h⟩, _⟩ := hc []
          exact ⟨_, _, h⟩
      obtain ⟨v, G', rfl, hw', hp⟩ := h
      exact (k v G' hp _ w' (hk.putO hd) hw').2
    refine ⟨?_, by simp [hlen]⟩
    simp only [List.zip_cons_cons, T, S1, wanted_none hg, if_true]
    exact ⟨post, fun w hw => hq a w hk hw, fun v G' w' hp hw' => ⟨hs v G' hp w0, (k v G' hp _ w' (hk.putO hd) hw').1⟩⟩

theorem V_wild {o : Oper} {post : Value → List Ent → Prop} (m : MdStep md .w md') (hg : o.guard = none) (hd : o.dst.all (Nat.blt · n) = true) (hq : EF P o n K w0 G post)
    (k : ∀ v G', post v G' → V P ops Q md' rest n (match o.dst with | some d => (d, v) :: K | none => K) w0 G') : V P ops Q md (o :: rest) n K w0 G := by
  intro a w hk hw
  have he := hq a w hk hw
  cases m with
  | n =>
    refine wpList_plain hg fun K' hK' => ?_
    refine Eff.wp (he.mono ?_)
    rintro a' w' ⟨v, G', rfl, hw', hp⟩
    exact hK' _ _ (k v G' hp _ w' (hk.putO hd) hw')
  | s g c cs =>
    have hlen : cs.length = rest.length := by
      obtain ⟨a', w', h⟩ : ∃ a' w', ∃ v G', a' = a.put o.dst v ∧ St w0 G' w' ∧ post v G' := by
        rcases he with ⟨v, w', _, h⟩ | ⟨w', _, h⟩ | ⟨f, args, w', _, hc⟩
        · exact ⟨_, _, h⟩
        · exact ⟨_, _, h⟩
        · obtain ⟨e, w'', fr, ⟨v, _, h⟩, _⟩ := hc []
          exact ⟨_, _, h⟩
      obtain ⟨v, G', rfl, hw', hp⟩ := h
      exact (k v G' hp _ w' (hk.putO hd) hw').2
    refine ⟨?_, by simp [hlen]⟩
    simp only [List.zip_cons_cons, T, S1, wanted_none hg, if_true]
    exact ⟨post, fun w hw => hq a w hk hw, fun v G' w' hp hw' => (k v G' hp _ w' (hk.putO hd) hw').1⟩

theorem V_beside {o : Oper} {post : Value → List Ent → Prop} (m : MdStep md (.u post) md') (hg : o.guard = none) (hd : o.dst.all (Nat.blt · n) = true) (hq : ∀ G0, Keeps w0 (rd md G) G0 → EF P o n K w0 G0 (fun v G' => ∃ D, G' = D ++ G0 ∧ post v D)) (hs : Keep md G)
    (k : ∀ v D, post v D → V P ops Q md' rest n (match o.dst with | some d => (d, v) :: K | none => K) w0 (D ++ G)) : V P ops Q md (o :: rest) n K w0 G := by
  intro a w hk hw
  have hK : Keeps w0 (rd md G) G := by
    cases md with
    | none => exact fun w h => h
    | some x => exact fun w h => hs w0 w h
  have he := hq G hK a w hk hw
  cases m with
  | n =>
    refine wpList_plain hg fun K' hK' => ?_
    refine Eff.wp (he.mono ?_)
    rintro a' w' ⟨v, G', rfl, hw', D, rfl, hp⟩
    exact hK' _ _ (k v D hp _ w' (hk.putO hd) hw')
  | s g c cs =>
    have hlen : cs.length = rest.length := by
      obtain ⟨a', w', h⟩ : ∃ a' w', ∃ v G', a' = a.put o.dst v ∧ St w0 G' w' ∧ ∃ D, G' = D ++ G ∧ post v D := by
        rcases he with ⟨v, w', _, h⟩ | ⟨w', _, h⟩ | ⟨f, args, w', _, hc⟩
        · exact ⟨_, _, h⟩
        · exact ⟨_, _, h⟩
        · obtain ⟨e, w'', fr, ⟨v, _, h⟩, _⟩ := hc []
          exact ⟨_, _, h⟩
      obtain ⟨v, G', rfl, hw', D, rfl, hp⟩ := h
      exact (k v D hp _ w' (hk.putO hd) hw').2
    refine ⟨?_, by simp [hlen]⟩
    simp only [List.zip_cons_cons, T, S1, wanted_none hg, if_true]
    refine ⟨fun G0 w hK hw => ?_, fun w hw => hs w0 w hw, fun v D w' hp hw' => (k v D hp _ w' (hk.putO hd) hw').1⟩
    refine (hq G0 hK a w hk hw).mono ?_
    rintro a' w' ⟨v, G', rfl, hw', D, rfl, hp⟩
    exact ⟨v, D, rfl, hw', hp⟩

theorem bytes_cat (p q : List UInt8) : (ByteArray.mk p.toArray) ++ (ByteArray.mk q.toArray) = ByteArray.mk (p ++ q).toArray := by
  refine Go.WideShapes.bytes_inj ?_
  rw [Joins.data_append]

def bits2 (op : BinOp) (i : IntKind) (p q : Int) : Int :=
  let a := BitVec.ofInt i.bits p
  let b := BitVec.ofInt i.bits q
  i.wrap (match op with | .and => (a &&& b).toNat | .or => (a ||| b).toNat | .xor => (a ^^^ b).toNat | _ => (a &&& ~~~b).toNat : Nat)

def want (ops : Array Oper) (K : Slots) (g : Nat × Bool) : Option Bool :=
  match (ops[g.1]?).bind (·.dst) with
  | some s => match lk K s with
    | some (.bool b) => some (b == g.2)
    | some _ => some false
    | none => none
  | none => none

theorem want_yes {a : Act} (hk : Kn n K a) {g : Nat × Bool} {b : Bool} (h : want ops K g = some b) (o : Oper) (ho : o.guard = some g) : Region.wanted o (yielded ops a.tmps) = b := by
  unfold want at h
  cases hs : (ops[g.1]?).bind (·.dst) with
  | none => rw [hs] at h; simp at h
  | some s =>
    rw [hs] at h
    cases hv : lk K s with
    | none => simp [hv] at h
    | some v =>
      have := hk.val s _ hv
      by_cases hb : ∃ c, v = .bool c
      · obtain ⟨c, rfl⟩ := hb
        simp only [hv, Option.some.injEq] at h
        have hy : yielded ops a.tmps g.1 = some c := by simp [yielded, hs, this]
        subst h
        obtain ⟨j, want⟩ := g
        simp only [Region.wanted, ho] at *
        rw [hy]
        rfl
      · have hy : yielded ops a.tmps g.1 = none := by
          cases v <;> first | exact (hb ⟨_, rfl⟩).elim | simp [yielded, hs, this]
        have hb' : b = false := by
          cases v <;> first | exact (hb ⟨_, rfl⟩).elim | (simp [hv] at h; first | exact h | exact h.symm)
        subst hb'
        obtain ⟨j, want⟩ := g
        simp only [Region.wanted, ho] at *
        rw [hy]
        rfl

theorem V_go {o : Op} {dst : Option Nat} (g : Nat × Bool) (h : want ops K g = some true) (k : V P ops Q md (⟨dst, o, ty, pos, af, none⟩ :: rest) n K w0 G) : V P ops Q md (⟨dst, o, ty, pos, af, some g⟩ :: rest) n K w0 G := by
  intro a w hk hw
  have h1 := want_yes hk h ⟨dst, o, ty, pos, af, some g⟩ rfl
  have h2 : Region.wanted ⟨dst, o, ty, pos, af, none⟩ (yielded ops a.tmps) = true := rfl
  have k' := k a w hk hw
  match md, k' with
  | none, k' =>
    unfold wpList at k' ⊢
    rw [if_pos h2] at k'; rw [if_pos h1]
    exact k'
  | some ([], []), k' => exact ⟨by simpa [T] using k'.1, k'.2⟩
  | some (g', []), k' => exact ⟨by simpa [T] using k'.1, k'.2⟩
  | some (g', c :: cs), k' =>
    refine ⟨?_, k'.2⟩
    have k'' := k'.1
    simp only [List.zip_cons_cons, T, S1] at k'' ⊢
    rw [if_pos h2] at k''; rw [if_pos h1]
    exact k''

theorem Kn.putUndef {a : Act} (hk : Kn n K a) (hd : Nat.blt d n = true) {v : Value} : Kn n ((d, v) :: K) (a.put (some d) v) := hk.put (by simpa using hd)

theorem V_pass {o : Op} {c : Cls} (m : MdStep md c md') (g : Nat × Bool) (h : want ops K g = some false) (hd : Nat.blt d n = true) (k : V P ops Q md' rest n ((d, undef) :: K) w0 G) : V P ops Q md (⟨some d, o, ty, pos, af, some g⟩ :: rest) n K w0 G := by
  intro a w hk hw
  have h1 := want_yes hk h ⟨some d, o, ty, pos, af, some g⟩ rfl
  have k' := k _ w (hk.putUndef hd) hw
  cases m with
  | n =>
    unfold wpList
    rw [h1, if_neg (by simp)]
    exact k'
  | s g' c cs =>
    refine ⟨?_, by simp [k'.2]⟩
    simp only [List.zip_cons_cons, T, S1]
    rw [h1, if_neg (by simp)]
    exact k'.1

theorem V_split (s : Nat) {p : Prop} {_ : Decidable p} {l : List Oper} (h : lk K s = some (.bool (decide p))) (ht : p → V P ops Q md l n ((s, .bool true) :: K) w0 G) (hf : ¬ p → V P ops Q md l n ((s, .bool false) :: K) w0 G) : V P ops Q md l n K w0 G := by
  intro a w hk hw
  by_cases hp : p
  · refine ht hp a w ⟨hk.size, hk.defers, ?_⟩ hw
    intro j v hj
    simp only [lk] at hj
    cases hb : Nat.beq s j with
    | true =>
      rw [hb] at hj
      have : s = j := Nat.eq_of_beq_eq_true hb
      subst this
      simp only [cond_true, Option.some.injEq] at hj
      subst hj
      have := hk.val s _ h
      simpa [hp] using this
    | false => rw [hb] at hj; exact hk.val j v hj
  · refine hf hp a w ⟨hk.size, hk.defers, ?_⟩ hw
    intro j v hj
    simp only [lk] at hj
    cases hb : Nat.beq s j with
    | true =>
      rw [hb] at hj
      have : s = j := Nat.eq_of_beq_eq_true hb
      subst this
      simp only [cond_true, Option.some.injEq] at hj
      subst hj
      have := hk.val s _ h
      simpa [hp] using this
    | false => rw [hb] at hj; exact hk.val j v hj

theorem V_splitB (s : Nat) {b : Bool} {l : List Oper} (h : lk K s = some (.bool b)) (ht : b = true → V P ops Q md l n ((s, .bool true) :: K) w0 G) (hf : b = false → V P ops Q md l n ((s, .bool false) :: K) w0 G) : V P ops Q md l n K w0 G :=
  V_split s (p := b = true) (by rw [h]; cases b <;> rfl) ht (fun e => hf (by simpa using e))

theorem V_mov {x : Operand} {v : Value} (m : MdStep md .p md') (hx : ev K x = some v) (hd : Nat.blt d n = true) (k : V P ops Q md' rest n ((d, v) :: K) w0 G) : V P ops Q md (⟨some d, .move x, ty, pos, af, none⟩ :: rest) n K w0 G :=
  V_pure m rfl rfl hd (fun a hk w => by simp only [execOp]; rw [hk.eval hx]; rfl) k
theorem V_asg {x : Operand} {v : Value} (m : MdStep md .p md') (hx : ev K x = some v) (hd : Nat.blt d n = true) (k : V P ops Q md' rest n ((d, v) :: K) w0 G) : V P ops Q md (⟨some d, .assign x, ty, pos, af, none⟩ :: rest) n K w0 G :=
  V_pure m rfl rfl hd (fun a hk w => by simp only [execOp]; rw [hk.eval hx]; rfl) k
theorem V_pickT {c x y : Operand} {v : Value} (m : MdStep md .p md') (hc : ev K c = some (.bool true)) (hx : ev K x = some v) (hd : Nat.blt d n = true) (k : V P ops Q md' rest n ((d, v) :: K) w0 G) : V P ops Q md (⟨some d, .pick c x y, ty, pos, af, none⟩ :: rest) n K w0 G :=
  V_pure m rfl rfl hd (fun a hk w => by simp only [execOp]; rw [hk.eval hc, hk.eval hx]; rfl) k
theorem V_pickF {c x y : Operand} {v : Value} (m : MdStep md .p md') (hc : ev K c = some (.bool false)) (hy : ev K y = some v) (hd : Nat.blt d n = true) (k : V P ops Q md' rest n ((d, v) :: K) w0 G) : V P ops Q md (⟨some d, .pick c x y, ty, pos, af, none⟩ :: rest) n K w0 G :=
  V_pure m rfl rfl hd (fun a hk w => by simp only [execOp]; rw [hk.eval hc, hk.eval hy]; rfl) k
theorem V_add {x y : Operand} {t u : TypeId} {p q : Int} {i : IntKind} (m : MdStep md .p md') (hx : ev K x = some (.int i p)) (hy : ev K y = some (.int i q)) (hb : i.wrap (p + q) = p + q) (hd : Nat.blt d n = true) (k : V P ops Q md' rest n ((d, .int i (p + q)) :: K) w0 G) : V P ops Q md (⟨some d, .binOp .add t x y u, ty, pos, af, none⟩ :: rest) n K w0 G :=
  V_pure m rfl rfl hd (fun a hk w => by simp only [execOp]; rw [hk.eval hx, hk.eval hy]; simp [eqGuard, binOp, Op.intArith, hb]) k
theorem V_addw {x y : Operand} {t u : TypeId} {p q : Int} {i : IntKind} (m : MdStep md .p md') (hx : ev K x = some (.int i p)) (hy : ev K y = some (.int i q)) (hd : Nat.blt d n = true) (k : V P ops Q md' rest n ((d, .int i (i.wrap (p + q))) :: K) w0 G) : V P ops Q md (⟨some d, .binOp .add t x y u, ty, pos, af, none⟩ :: rest) n K w0 G :=
  V_pure m rfl rfl hd (fun a hk w => by simp only [execOp]; rw [hk.eval hx, hk.eval hy]; simp [eqGuard, binOp, Op.intArith]) k
theorem V_sub1 {x y : Operand} {t u : TypeId} {p q : Int} {i : IntKind} (m : MdStep md .p md') (hx : ev K x = some (.int i p)) (hy : ev K y = some (.int i q)) (hb : i.wrap (p - q) = p - q) (hd : Nat.blt d n = true) (k : V P ops Q md' rest n ((d, .int i (p - q)) :: K) w0 G) : V P ops Q md (⟨some d, .binOp .sub t x y u, ty, pos, af, none⟩ :: rest) n K w0 G :=
  V_pure m rfl rfl hd (fun a hk w => by simp only [execOp]; rw [hk.eval hx, hk.eval hy]; simp [eqGuard, binOp, Op.intArith, hb]) k
theorem V_mul {x y : Operand} {t u : TypeId} {p q : Int} {i : IntKind} (m : MdStep md .p md') (hx : ev K x = some (.int i p)) (hy : ev K y = some (.int i q)) (hb : i.wrap (p * q) = p * q) (hd : Nat.blt d n = true) (k : V P ops Q md' rest n ((d, .int i (p * q)) :: K) w0 G) : V P ops Q md (⟨some d, .binOp .mul t x y u, ty, pos, af, none⟩ :: rest) n K w0 G :=
  V_pure m rfl rfl hd (fun a hk w => by simp only [execOp]; rw [hk.eval hx, hk.eval hy]; simp [eqGuard, binOp, Op.intArith, hb]) k
theorem V_lss {x y : Operand} {t u : TypeId} {p q : Int} {i : IntKind} (m : MdStep md .p md') (hx : ev K x = some (.int i p)) (hy : ev K y = some (.int i q)) (hd : Nat.blt d n = true) (k : V P ops Q md' rest n ((d, .bool (decide (p < q))) :: K) w0 G) : V P ops Q md (⟨some d, .binOp .lss t x y u, ty, pos, af, none⟩ :: rest) n K w0 G :=
  V_pure m rfl rfl hd (fun a hk w => by simp only [execOp]; rw [hk.eval hx, hk.eval hy]; simp [eqGuard, binOp, Op.intCmp]) k
theorem V_leq {x y : Operand} {t u : TypeId} {p q : Int} {i : IntKind} (m : MdStep md .p md') (hx : ev K x = some (.int i p)) (hy : ev K y = some (.int i q)) (hd : Nat.blt d n = true) (k : V P ops Q md' rest n ((d, .bool (decide (p ≤ q))) :: K) w0 G) : V P ops Q md (⟨some d, .binOp .leq t x y u, ty, pos, af, none⟩ :: rest) n K w0 G :=
  V_pure m rfl rfl hd (fun a hk w => by simp only [execOp]; rw [hk.eval hx, hk.eval hy]; simp [eqGuard, binOp, Op.intCmp]) k
theorem V_gtr {x y : Operand} {t u : TypeId} {p q : Int} {i : IntKind} (m : MdStep md .p md') (hx : ev K x = some (.int i p)) (hy : ev K y = some (.int i q)) (hd : Nat.blt d n = true) (k : V P ops Q md' rest n ((d, .bool (decide (q < p))) :: K) w0 G) : V P ops Q md (⟨some d, .binOp .gtr t x y u, ty, pos, af, none⟩ :: rest) n K w0 G :=
  V_pure m rfl rfl hd (fun a hk w => by simp only [execOp]; rw [hk.eval hx, hk.eval hy]; simp [eqGuard, binOp, Op.intCmp]) k
theorem V_geq {x y : Operand} {t u : TypeId} {p q : Int} {i : IntKind} (m : MdStep md .p md') (hx : ev K x = some (.int i p)) (hy : ev K y = some (.int i q)) (hd : Nat.blt d n = true) (k : V P ops Q md' rest n ((d, .bool (decide (q ≤ p))) :: K) w0 G) : V P ops Q md (⟨some d, .binOp .geq t x y u, ty, pos, af, none⟩ :: rest) n K w0 G :=
  V_pure m rfl rfl hd (fun a hk w => by simp only [execOp]; rw [hk.eval hx, hk.eval hy]; simp [eqGuard, binOp, Op.intCmp]) k
theorem V_eql {x y : Operand} {t u : TypeId} {p q : Int} {i : IntKind} (m : MdStep md .p md') (hx : ev K x = some (.int i p)) (hy : ev K y = some (.int i q)) (hd : Nat.blt d n = true) (k : V P ops Q md' rest n ((d, .bool (decide (p = q))) :: K) w0 G) : V P ops Q md (⟨some d, .binOp .eql t x y u, ty, pos, af, none⟩ :: rest) n K w0 G :=
  V_pure m rfl rfl hd (fun a hk w => by simp only [execOp]; rw [hk.eval hx, hk.eval hy]; simp [eqGuard, binOp, Op.intCmp]; by_cases h : p = q <;> simp [h]) k
theorem V_neq {x y : Operand} {t u : TypeId} {p q : Int} {i : IntKind} (m : MdStep md .p md') (hx : ev K x = some (.int i p)) (hy : ev K y = some (.int i q)) (hd : Nat.blt d n = true) (k : V P ops Q md' rest n ((d, .bool (decide (p ≠ q))) :: K) w0 G) : V P ops Q md (⟨some d, .binOp .neq t x y u, ty, pos, af, none⟩ :: rest) n K w0 G :=
  V_pure m rfl rfl hd (fun a hk w => by simp only [execOp]; rw [hk.eval hx, hk.eval hy]; simp [eqGuard, binOp, Op.intCmp]; by_cases h : p = q <;> simp [h]) k
theorem V_quo {x y : Operand} {t u : TypeId} {p q : Int} {i : IntKind} (m : MdStep md .p md') (hx : ev K x = some (.int i p)) (hy : ev K y = some (.int i q)) (hp : 0 ≤ p) (hq : 0 < q) (hb : i.wrap (p / q) = p / q) (hd : Nat.blt d n = true) (k : V P ops Q md' rest n ((d, .int i (p / q)) :: K) w0 G) : V P ops Q md (⟨some d, .binOp .quo t x y u, ty, pos, af, none⟩ :: rest) n K w0 G :=
  V_pure m rfl rfl hd (fun a hk w => by
    simp only [execOp]; rw [hk.eval hx, hk.eval hy]
    have h0 : q ≠ 0 := by omega
    have e : p.tdiv q = p / q := Int.tdiv_eq_ediv_of_nonneg hp
    simp [eqGuard, binOp, Op.intDiv, h0, e, hb]) k
theorem V_rem {x y : Operand} {t u : TypeId} {p q : Int} {i : IntKind} (m : MdStep md .p md') (hx : ev K x = some (.int i p)) (hy : ev K y = some (.int i q)) (hp : 0 ≤ p) (hq : 0 < q) (hd : Nat.blt d n = true) (k : V P ops Q md' rest n ((d, .int i (p % q)) :: K) w0 G) : V P ops Q md (⟨some d, .binOp .rem t x y u, ty, pos, af, none⟩ :: rest) n K w0 G :=
  V_pure m rfl rfl hd (fun a hk w => by
    simp only [execOp]; rw [hk.eval hx, hk.eval hy]
    have h0 : q ≠ 0 := by omega
    have e : p.tmod q = p % q := Int.tmod_eq_emod_of_nonneg hp
    simp [eqGuard, binOp, Op.intDiv, h0, e]) k
theorem V_shl {x y : Operand} {t u : TypeId} {p q : Int} {i j : IntKind} (m : MdStep md .p md') (hx : ev K x = some (.int i p)) (hy : ev K y = some (.int j q)) (hq : 0 ≤ q) (hq1 : q.toNat ≤ i.bits) (hb : i.wrap (p * 2 ^ q.toNat) = p * 2 ^ q.toNat) (hd : Nat.blt d n = true) (k : V P ops Q md' rest n ((d, .int i (p * 2 ^ q.toNat)) :: K) w0 G) : V P ops Q md (⟨some d, .binOp .shl t x y u, ty, pos, af, none⟩ :: rest) n K w0 G :=
  V_pure m rfl rfl hd (fun a hk w => by
    simp only [execOp]; rw [hk.eval hx, hk.eval hy]
    have h0 : ¬ q < 0 := by omega
    have e : min q.toNat i.bits = q.toNat := by omega
    simp [eqGuard, binOp, Op.shift, h0, e, hb]) k
theorem V_shr {x y : Operand} {t u : TypeId} {p q : Int} {i j : IntKind} (m : MdStep md .p md') (hx : ev K x = some (.int i p)) (hy : ev K y = some (.int j q)) (hq : 0 ≤ q) (hq1 : q.toNat ≤ i.bits) (hd : Nat.blt d n = true) (k : V P ops Q md' rest n ((d, .int i (p / 2 ^ q.toNat)) :: K) w0 G) : V P ops Q md (⟨some d, .binOp .shr t x y u, ty, pos, af, none⟩ :: rest) n K w0 G :=
  V_pure m rfl rfl hd (fun a hk w => by
    simp only [execOp]; rw [hk.eval hx, hk.eval hy]
    have h0 : ¬ q < 0 := by omega
    have e : min q.toNat i.bits = q.toNat := by omega
    have e2 : p.fdiv (2 ^ q.toNat) = p / 2 ^ q.toNat := Int.fdiv_eq_ediv_of_nonneg _ (by exact Int.le_of_lt (Int.pow_pos (by decide)))
    simp [eqGuard, binOp, Op.shift, h0, e, e2]) k
theorem V_and {x y : Operand} {t u : TypeId} {p q r : Int} {i : IntKind} (m : MdStep md .p md') (hx : ev K x = some (.int i p)) (hy : ev K y = some (.int i q)) (hr : bits2 .and i p q = r) (hd : Nat.blt d n = true) (k : V P ops Q md' rest n ((d, .int i r) :: K) w0 G) : V P ops Q md (⟨some d, .binOp .and t x y u, ty, pos, af, none⟩ :: rest) n K w0 G :=
  V_pure m rfl rfl hd (fun a hk w => by simp only [execOp]; rw [hk.eval hx, hk.eval hy]; subst hr; simp [eqGuard, binOp, Op.intBits, bits2]) k
theorem V_or {x y : Operand} {t u : TypeId} {p q r : Int} {i : IntKind} (m : MdStep md .p md') (hx : ev K x = some (.int i p)) (hy : ev K y = some (.int i q)) (hr : bits2 .or i p q = r) (hd : Nat.blt d n = true) (k : V P ops Q md' rest n ((d, .int i r) :: K) w0 G) : V P ops Q md (⟨some d, .binOp .or t x y u, ty, pos, af, none⟩ :: rest) n K w0 G :=
  V_pure m rfl rfl hd (fun a hk w => by simp only [execOp]; rw [hk.eval hx, hk.eval hy]; subst hr; simp [eqGuard, binOp, Op.intBits, bits2]) k
theorem V_notB {x : Operand} {t : TypeId} {b : Bool} (m : MdStep md .p md') (hx : ev K x = some (.bool b)) (hd : Nat.blt d n = true) (k : V P ops Q md' rest n ((d, .bool (!b)) :: K) w0 G) : V P ops Q md (⟨some d, .unOp .not t x, ty, pos, af, none⟩ :: rest) n K w0 G :=
  V_pure m rfl rfl hd (fun a hk w => by simp only [execOp]; rw [hk.eval hx]; simp [Op.unary]) k
theorem V_nc {x : Operand} {ad : Addr} (m : MdStep md .p md') (hx : ev K x = some (.pointer (some ad))) (hd : Nat.blt d n = true) (k : V P ops Q md' rest n ((d, .pointer (some ad)) :: K) w0 G) : V P ops Q md (⟨some d, .nilCheck x, ty, pos, af, none⟩ :: rest) n K w0 G :=
  V_pure m rfl rfl hd (fun a hk w => by simp only [execOp]; rw [hk.eval hx]; rfl) k
theorem V_ext {x : Operand} {i : Nat} {vs : Array Value} {v : Value} (m : MdStep md .p md') (hx : ev K x = some (.tuple vs)) (hi : vs[i]? = some v) (hd : Nat.blt d n = true) (k : V P ops Q md' rest n ((d, v) :: K) w0 G) : V P ops Q md (⟨some d, .extract x i, ty, pos, af, none⟩ :: rest) n K w0 G :=
  V_pure m rfl rfl hd (fun a hk w => by simp only [execOp]; rw [hk.eval hx]; simp [Instr.extract, hi]) k
theorem V_seql {x y : Operand} {t u : TypeId} {p q : List UInt8} (m : MdStep md .p md') (hx : ev K x = some (.string ⟨p.toArray⟩)) (hy : ev K y = some (.string ⟨q.toArray⟩)) (hd : Nat.blt d n = true) (k : V P ops Q md' rest n ((d, .bool (decide (p = q))) :: K) w0 G) : V P ops Q md (⟨some d, .binOp .eql t x y u, ty, pos, af, none⟩ :: rest) n K w0 G :=
  V_pure m rfl rfl hd (fun a hk w => by simp only [execOp]; rw [hk.eval hx, hk.eval hy]; simp [eqGuard, binOp, Op.stringOp]; by_cases h : p = q <;> simp [h]) k
theorem V_cat {x y : Operand} {t u : TypeId} {p q : List UInt8} (m : MdStep md .p md') (hx : ev K x = some (.string ⟨p.toArray⟩)) (hy : ev K y = some (.string ⟨q.toArray⟩)) (hlen : p.length + q.length ≤ 1073741824) (hd : Nat.blt d n = true) (k : V P ops Q md' rest n ((d, .string ⟨(p ++ q).toArray⟩) :: K) w0 G) : V P ops Q md (⟨some d, .binOp .add t x y u, ty, pos, af, none⟩ :: rest) n K w0 G :=
  V_pure m rfl rfl hd (fun a hk w => by
    simp only [execOp]; rw [hk.eval hx, hk.eval hy]
    have h1 : ¬ (((ByteArray.mk p.toArray).size + (ByteArray.mk q.toArray).size : Nat) : Int) > IntKind.i64.max := by (have e1 : (ByteArray.mk p.toArray).size = p.length := by simp [ByteArray.size]) ; (have e2 : (ByteArray.mk q.toArray).size = q.length := by simp [ByteArray.size]); rw [e1, e2]; simp [IntKind.max, IntKind.signed, IntKind.bits]; omega
    simp only [eqGuard, binOp, Op.stringOp, if_neg h1, Sem.run_bind, Sem.run_pure]; exact congrArg (fun b => Result.ok (Next.value (Value.string b)) w) (bytes_cat p q)) k
theorem run_underlying {t : TypeId} {u : TypeDesc} (h : P.underlying t = some u) (w : World) : (underlying t).run P w = .ok u w := by simp [underlying, h]
theorem equalIn_nil {t e : TypeId} (h : P.underlying t = some (.slice e)) (d : Nat) (A : Option Addr) (l c : Nat) (w : World) : (Op.equalIn (d + 1) t (.slice A l c) (.slice none 0 0)).run P w = .ok A.isNone w := by
  unfold Op.equalIn
  cases A <;> simp [run_underlying h]
theorem equal_nil {t e : TypeId} (h : P.underlying t = some (.slice e)) (A : Option Addr) (l c : Nat) (w : World) : (Op.equal t (.slice A l c) (.slice none 0 0)).run P w = .ok A.isNone w := equalIn_nil h 9999 A l c w
theorem V_isnil {x y : Operand} {t u e : TypeId} {A : Option Addr} {l c : Nat} (m : MdStep md .p md') (hT : P.underlying t = some (.slice e)) (hx : ev K x = some (.slice A l c)) (hy : ev K y = some (.slice none 0 0)) (hd : Nat.blt d n = true) (k : V P ops Q md' rest n ((d, .bool (decide (A = none))) :: K) w0 G) : V P ops Q md (⟨some d, .binOp .eql t x y u, ty, pos, af, none⟩ :: rest) n K w0 G :=
  V_pure m rfl rfl hd (fun a hk w => by simp only [execOp]; rw [hk.eval hx, hk.eval hy]; simp [eqGuard, binOp, equal_nil hT]; cases A <;> rfl) k

end Go.Proofs.YtgeahmmepfmcoaaDoor.L
