/- Rules for maps that remember results: makeMap, a look-up with its Bool, a store. -/
import Derived.Test.YtgeahmmepfmcoaaDoorCore8
import Derived.MapKept
import GoSem.Instr.Lookup
import GoSem.Instr.MapUpdate
namespace Go.Proofs.YtgeahmmepfmcoaaDoor.L
open Go Go.RowKit
set_option linter.unusedVariables false
set_option linter.unusedSimpArgs false

variable {P : Program} {Q : Exit → Act → World → Prop} {n : Nat} {K : Slots} {w0 : World} {G : List Ent}
variable {ops : Array Oper} {md md' : Md} {rest : List Oper} {d : Nat} {ty : TypeId} {pos : String} {af : Array Edge}

/-- keys of a kind: kv gives a key's value -/
structure KeyOk (P : Program) (kt : TypeId) {κ : Type} (kv : κ → Value) : Prop where
  inj : ∀ a b, kv a = kv b → a = b
  check : ∀ e k w, (Instr.checkKey e 10000 kt (kv k)).run P w = .ok () w
  bits : ∀ k, Instr.sameBits 10000 (kv k) (kv k) = true
  find : ∀ (es : List MapEntry) (k : κ), (∀ e ∈ es, ∃ k', e.key = kv k') →
    (∃ i e, es[i]? = some e ∧ e.key = kv k ∧ ∀ w, (Instr.findKey kt (kv k) es).run P w = .ok (some (i, e.val)) w) ∨
    ((∀ e ∈ es, e.key ≠ kv k) ∧ ∀ w, (Instr.findKey kt (kv k) es).run P w = .ok none w)

/-- a memory of results: each entry is a key with its result -/
def Memo {κ : Type} (kv : κ → Value) (fv : κ → Value) (ok : κ → Prop) (es : List MapEntry) : Prop := ∀ e ∈ es, ∃ k, ok k ∧ e.key = kv k ∧ e.val = fv k

theorem Memo.nil {κ : Type} (kv : κ → Value) (fv : κ → Value) (ok : κ → Prop) : Memo kv fv ok [] := fun e h => by simp at h

theorem V_mkm {t : TypeId} (m : MdStep md .e md') (hd : Nat.blt d n = true) (hs : ∀ b, Keep md (.m b [] 0 :: G))
    (kk : ∀ b, V P ops Q md' rest n ((d, .map (some b)) :: K) w0 (.m b [] 0 :: G)) : V P ops Q md (⟨some d, .makeMap t none, ty, pos, af, none⟩ :: rest) n K w0 G :=
  V_act (post := fun v G' => ∃ b, v = .map (some b) ∧ G' = .m b [] 0 :: G) m rfl (by simpa using hd)
    (fun a w hk hw => .inl ⟨_, w.alloc (.map #[] 0), by simp only [execOp]; simp [Instr.makeMap],
      _, _, rfl, hw.alloc (x := .m w.heap.size [] 0) rfl (heap_new w _), w.heap.size, rfl, rfl⟩)
    (by rintro v G' ⟨b, rfl, rfl⟩; exact hs b) (by rintro v G' ⟨b, rfl, rfl⟩; exact kk b)

theorem V_lookM {x y : Operand} {mt kt et b clk : Nat} {es : List MapEntry} {κ : Type} {kv fv : κ → Value} {ok : κ → Prop} {k : κ} {zv : Value} (m : MdStep md .r md') (hu : P.underlying mt = some (.map kt et)) (hK : KeyOk P kt kv) (hz : ∀ w, (zeroValue et).run P w = .ok zv w)
    (hx : ev K x = some (.map (some b))) (hy : ev K y = some (kv k)) (hm : Ent.m b es clk ∈ rd md G) (hes : Memo kv fv ok es) (hd : Nat.blt d n = true)
    (k1 : ok k → V P ops Q md' rest n ((d, .tuple #[fv k, .bool true]) :: K) w0 G)
    (k2 : V P ops Q md' rest n ((d, .tuple #[zv, .bool false]) :: K) w0 G) : V P ops Q md (⟨some d, .lookup mt x y true, ty, pos, af, none⟩ :: rest) n K w0 G := by
  rcases hK.find es k (fun e he => by obtain ⟨k', _, h, _⟩ := hes e he; exact ⟨k', h⟩) with ⟨i, e, hi, hk, hf⟩ | ⟨hno, hf⟩
  · obtain ⟨k', hok, h1, h2⟩ := hes e (List.mem_of_getElem? hi)
    obtain rfl := hK.inj _ _ (hk.symm.trans h1)
    refine V_read m rfl rfl hd (fun a w hkn hw => ?_) (k1 hok)
    have hb : w.heap[b]? = some (.map es.toArray clk) := hw.has _ hm
    simp only [execOp]; rw [hkn.eval hx, hkn.eval hy]
    simp [Instr.lookup, run_underlying hu, MapKept.run_getObj_map hb, hK.check, hf w, h2]
  · refine V_read m rfl rfl hd (fun a w hkn hw => ?_) k2
    have hb : w.heap[b]? = some (.map es.toArray clk) := hw.has _ hm
    simp only [execOp]; rw [hkn.eval hx, hkn.eval hy]
    simp [Instr.lookup, run_underlying hu, MapKept.run_getObj_map hb, hK.check, hf w, hz w]

theorem modify_list (es : List MapEntry) (i : Nat) (f : MapEntry → MapEntry) : es.toArray.modify i f = (es.modify i f).toArray := by simp

theorem V_setM {x y z : Operand} {mt kt et b clk : Nat} {es : List MapEntry} {κ : Type} {kv fv : κ → Value} {ok : κ → Prop} {k : κ} {G1 G2 : List Ent} (m : MdStep md .w md') (hu : P.underlying mt = some (.map kt et)) (hK : KeyOk P kt kv)
    (hx : ev K x = some (.map (some b))) (hy : ev K y = some (kv k)) (hz : ev K z = some (fv k)) (hG : G = G1 ++ .m b es clk :: G2) (hes : Memo kv fv ok es) (hok : ok k)
    (kk : ∀ es' clk', Memo kv fv ok es' → V P ops Q md' rest n K w0 (G1 ++ .m b es' clk' :: G2)) : V P ops Q md (⟨none, .mapUpdate mt x y z, ty, pos, af, none⟩ :: rest) n K w0 G := by
  have hput : ∀ (w : World) (es' : List MapEntry) (clk' : Nat), St w0 (G1 ++ .m b es clk :: G2) w → St w0 (G1 ++ .m b es' clk' :: G2) { w with heap := w.heap.setIfInBounds b (.map es'.toArray clk') } := by
    intro w es' clk' hw
    have hb : w.heap[b]? = some (.map es.toArray clk) := hw.has (.m b es clk) (by simp)
    have h2 := MapKept.heap_set (w := w) (o' := .map es'.toArray clk') hb
    exact hw.write (x := .m b es clk) (y := .m b es' clk') rfl rfl rfl rfl rfl (by simp) h2.2 h2.1
  rcases hK.find es k (fun e he => by obtain ⟨k', _, h, _⟩ := hes e he; exact ⟨k', h⟩) with ⟨i, e, hi, hk, hf⟩ | ⟨hno, hf⟩
  · let es' := es.modify i fun e => { e with key := kv k, val := fv k }
    have hes' : Memo kv fv ok es' := by
      intro e' he'
      obtain ⟨j, hj⟩ := List.mem_iff_getElem?.1 he'
      rw [List.getElem?_modify] at hj
      cases hej : es[j]? with
      | none => simp [hej] at hj
      | some u =>
        rw [hej] at hj
        have hj' := Option.some.inj hj
        rw [← hj']
        split
        · exact ⟨k, hok, rfl, rfl⟩
        · exact hes u (List.mem_of_getElem? hej)
    refine V_wild (post := fun _ G' => G' = G1 ++ .m b es' clk :: G2) m rfl rfl (fun a w hkn hw => ?_) (by rintro v G' rfl; exact kk es' clk hes')
    subst hG
    have hb : w.heap[b]? = some (.map es.toArray clk) := hw.has (.m b es clk) (by simp)
    refine .inr (.inl ⟨({ w with heap := w.heap.setIfInBounds b (.map es'.toArray clk) } : World), ?_, undef, _, rfl, hput w es' clk hw, rfl⟩)
    simp only [execOp]; rw [hkn.eval hx, hkn.eval hy, hkn.eval hz]
    simp [Instr.mapUpdate, run_underlying hu, MapKept.run_getObj_map hb, hK.check, hf w, hi, hk, Instr.keyThatStays, hK.bits, MapKept.run_setObj_map _ hb, es']
  · have hes' : Memo kv fv ok (es ++ [{ key := kv k, val := fv k, born := clk }]) := by
      intro e' he'
      rcases List.mem_append.1 he' with h | h
      · exact hes e' h
      · simp at h; subst h; exact ⟨k, hok, rfl, rfl⟩
    refine V_wild (post := fun _ G' => G' = G1 ++ .m b (es ++ [({ key := kv k, val := fv k, born := clk } : MapEntry)]) (clk + 1) :: G2) m rfl rfl (fun a w hkn hw => ?_) (by rintro v G' rfl; exact kk _ _ hes')
    subst hG
    have hb : w.heap[b]? = some (.map es.toArray clk) := hw.has (.m b es clk) (by simp)
    refine .inr (.inl ⟨({ w with heap := w.heap.setIfInBounds b (.map (es ++ [({ key := kv k, val := fv k, born := clk } : MapEntry)]).toArray (clk + 1)) } : World), ?_, undef, _, rfl, hput w _ _ hw, rfl⟩)
    simp only [execOp]; rw [hkn.eval hx, hkn.eval hy, hkn.eval hz]
    simp [Instr.mapUpdate, run_underlying hu, MapKept.run_getObj_map hb, hK.check, hf w, MapKept.run_setObj_map _ hb]

/-- an entry's place -/
inductive Sp : List Ent → List Ent → Ent → List Ent → Prop where
  | z {x : Ent} {r : List Ent} : Sp (x :: r) [] x r
  | s {x u : Ent} {r G1 G2 : List Ent} : Sp r G1 x G2 → Sp (u :: r) (u :: G1) x G2
theorem Sp.eq {G G1 G2 : List Ent} {x : Ent} (h : Sp G G1 x G2) : G = G1 ++ x :: G2 := by
  induction h with
  | z => rfl
  | s _ ih => rw [ih]; rfl

/-- keys of one cell that are compared at once -/
theorem KeyOk.one {kt : TypeId} {κ : Type} {kv : κ → Value} {D : TypeDesc} (hu : P.underlying kt = some D) (hk : ∀ k, MapKept.IsKey D (kv k)) (hi : ∀ a b, kv a = kv b → a = b) (hb : ∀ k, Instr.sameBits 10000 (kv k) (kv k) = true) : KeyOk P kt kv where
  inj := hi
  check := fun e k w => MapKept.run_checkKey hu (hk k) e 9999
  bits := hb
  find := fun es k h => by
    rcases MapKept.findNow_spec (hk k) es 0 (fun x hx => by obtain ⟨k', e⟩ := h x hx; rw [e]; exact hk k') with ⟨h1, h2⟩ | ⟨j, e, h1, h2, h3⟩
    · exact .inr ⟨h2, fun w => MapKept.run_findKey hu h1⟩
    · exact .inl ⟨j, e, h2, h3, fun w => by rw [MapKept.run_findKey hu h1]; simp⟩

theorem findAsking_run {kt : TypeId} {k : Value} {P : Program} (eqv : Value → Bool) : ∀ (es : List MapEntry) (i : Nat), (∀ e ∈ es, ∀ w, (Op.equal kt k e.key).run P w = .ok (eqv e.key) w) →
    (∃ j e, es[j]? = some e ∧ eqv e.key = true ∧ ∀ w, (Instr.findAsking kt k es i).run P w = .ok (some (i + j, e.val)) w) ∨
    ((∀ e ∈ es, eqv e.key = false) ∧ ∀ w, (Instr.findAsking kt k es i).run P w = .ok none w)
  | [], i, _ => .inr ⟨by simp, fun w => by simp [Instr.findAsking]⟩
  | e :: es, i, h => by
    have h0 := h e (by simp)
    cases he : eqv e.key with
    | true => exact .inl ⟨0, e, rfl, he, fun w => by simp [Instr.findAsking, h0 w, he]⟩
    | false =>
      rcases findAsking_run eqv es (i + 1) (fun e he => h e (by simp [he])) with ⟨j, e', h1, h2, h3⟩ | ⟨h1, h2⟩
      · exact .inl ⟨j + 1, e', by simpa using h1, h2, fun w => by simp only [Instr.findAsking]; simp [h0 w, he, h3 w]; omega⟩
      · exact .inr ⟨fun x hx => by rcases List.mem_cons.1 hx with rfl | hx; exact he; exact h1 x hx, fun w => by simp only [Instr.findAsking]; simp [h0 w, he, h2 w]⟩

end Go.Proofs.YtgeahmmepfmcoaaDoor.L
