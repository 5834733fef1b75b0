/- parts that the proof of BathTours uses -/
import Derived.Test.YtgeahmmepfmcoaaDoorWitD
import Derived.MapKept
import Derived.DeepKeys4
import Derived.Lib.Bytealg
import Derived.Laws.Externs
import GoSem.Instr.Lookup
import GoSem.Instr.MapUpdate
namespace Go.Proofs.YtgeahmmepfmcoaaDoor.L
open Go Go.RowKit
set_option linter.unusedVariables false
set_option linter.unusedSimpArgs false

variable {P : Program} {Q : Exit → Act → World → Prop} {n : Nat} {K : Slots} {w0 : World} {G : List Ent}
variable {ops : Array Oper} {md md' : Md} {rest : List Oper} {d : Nat} {ty : TypeId} {pos : String} {af : Array Edge}

structure KeyOk (P : Program) (kt : TypeId) {κ : Type} (kv : κ → Value) (ok : κ → Prop) : Prop where
  inj : ∀ a b, kv a = kv b → a = b
  check : ∀ e k w, ok k → (Instr.checkKey e 10000 kt (kv k)).run P w = .ok () w
  stays : ∀ k w, ok k → (Instr.keyThatStays (kv k) (kv k)).run P w = .ok (kv k) w
  find : ∀ (es : List MapEntry) (k : κ) w, ok k → (∀ e ∈ es, ∃ k', ok k' ∧ e.key = kv k') →
    ((Instr.findKey kt (kv k) es).run P w = .ok none w ∧ ∀ e ∈ es, e.key ≠ kv k) ∨
    ∃ i e, (Instr.findKey kt (kv k) es).run P w = .ok (some (i, e.val)) w ∧ es[i]? = some e ∧ e.key = kv k

def Memo {κ : Type} (kv : κ → Value) (fv : κ → Value) (ok : κ → Prop) (es : List MapEntry) : Prop := ∀ e ∈ es, ∃ k, ok k ∧ e.key = kv k ∧ e.val = fv k

theorem Memo.nil {κ : Type} (kv : κ → Value) (fv : κ → Value) (ok : κ → Prop) : Memo kv fv ok [] := fun e h => by simp at h

theorem V_mkm {t : TypeId} (m : MdStep md .e md') (hd : Nat.blt d n = true) (hs : ∀ b, Keep md (.m b [] 0 :: G))
    (kk : ∀ b, V P ops Q md' rest n ((d, .map (some b)) :: K) w0 (.m b [] 0 :: G)) : V P ops Q md (⟨some d, .makeMap t none, ty, pos, af, none⟩ :: rest) n K w0 G :=
  V_act (post := fun v G' => ∃ b, v = .map (some b) ∧ G' = .m b [] 0 :: G) m rfl (by simpa using hd)
    (fun a w hk hw => .inl ⟨_, w.alloc (.map #[] 0), by simp only [execOp]; simp [Instr.makeMap],
      _, _, rfl, hw.alloc (x := .m w.heap.size [] 0) rfl (heap_new w _), w.heap.size, rfl, rfl⟩)
    (by rintro v G' ⟨b, rfl, rfl⟩; exact hs b) (by rintro v G' ⟨b, rfl, rfl⟩; exact kk b)

theorem V_lookM {x y : Operand} {mt kt et b clk : Nat} {es : List MapEntry} {κ : Type} {kv fv : κ → Value} {ok : κ → Prop} {k : κ} {zv : Value} (m : MdStep md .r md') (hu : P.underlying mt = some (.map kt et)) (hK : KeyOk P kt kv ok) (hok : ok k) (hz : ∀ w, (zeroValue et).run P w = .ok zv w)
    (hx : ev K x = some (.map (some b))) (hy : ev K y = some (kv k)) (hm : Ent.m b es clk ∈ rd md G) (hes : Memo kv fv ok es) (hd : Nat.blt d n = true)
    (k1 : V P ops Q md' rest n ((d, .tuple #[fv k, .bool true]) :: K) w0 G)
    (k2 : V P ops Q md' rest n ((d, .tuple #[zv, .bool false]) :: K) w0 G) : V P ops Q md (⟨some d, .lookup mt x y true, ty, pos, af, none⟩ :: rest) n K w0 G := by
  have hks : ∀ e ∈ es, ∃ k', ok k' ∧ e.key = kv k' := fun e he => by obtain ⟨k', h0, h, _⟩ := hes e he; exact ⟨k', h0, h⟩
  by_cases hex : ∃ e ∈ es, e.key = kv k
  · refine V_read m rfl rfl hd (fun a w hkn hw => ?_) k1
    have hb : w.heap[b]? = some (.map es.toArray clk) := hw.has _ hm
    simp only [execOp]; rw [hkn.eval hx, hkn.eval hy]
    rcases hK.find es k w hok hks with ⟨_, hno⟩ | ⟨i, e, hf, hi, hk⟩
    · obtain ⟨e, he, hk⟩ := hex
      exact (hno e he hk).elim
    · obtain ⟨k', _, h1, h2⟩ := hes e (List.mem_of_getElem? hi)
      obtain rfl := hK.inj _ _ (hk.symm.trans h1)
      simp [Instr.lookup, run_underlying hu, MapKept.run_getObj_map hb, hK.check _ _ _ hok, hf, h2]
  · refine V_read m rfl rfl hd (fun a w hkn hw => ?_) k2
    have hb : w.heap[b]? = some (.map es.toArray clk) := hw.has _ hm
    simp only [execOp]; rw [hkn.eval hx, hkn.eval hy]
    rcases hK.find es k w hok hks with ⟨hf, _⟩ | ⟨i, e, hf, hi, hk⟩
    · simp [Instr.lookup, run_underlying hu, MapKept.run_getObj_map hb, hK.check _ _ _ hok, hf, hz w]
    · exact (hex ⟨e, List.mem_of_getElem? hi, hk⟩).elim

theorem V_setM {x y z : Operand} {mt kt et b clk : Nat} {es : List MapEntry} {κ : Type} {kv fv : κ → Value} {ok : κ → Prop} {k : κ} {G1 G2 : List Ent} (m : MdStep md .w md') (hu : P.underlying mt = some (.map kt et)) (hK : KeyOk P kt kv ok)
    (hx : ev K x = some (.map (some b))) (hy : ev K y = some (kv k)) (hz : ev K z = some (fv k)) (hG : G = G1 ++ .m b es clk :: G2) (hes : Memo kv fv ok es) (hok : ok k)
    (kk : ∀ es' clk', Memo kv fv ok es' → V P ops Q md' rest n K w0 (G1 ++ .m b es' clk' :: G2)) : V P ops Q md (⟨none, .mapUpdate mt x y z, ty, pos, af, none⟩ :: rest) n K w0 G := by
  have hput : ∀ (w : World) (es' : List MapEntry) (clk' : Nat), St w0 (G1 ++ .m b es clk :: G2) w → St w0 (G1 ++ .m b es' clk' :: G2) { w with heap := w.heap.setIfInBounds b (.map es'.toArray clk') } := by
    intro w es' clk' hw
    have hb : w.heap[b]? = some (.map es.toArray clk) := hw.has (.m b es clk) (by simp)
    have h2 := MapKept.heap_set (w := w) (o' := .map es'.toArray clk') hb
    exact hw.write (x := .m b es clk) (y := .m b es' clk') rfl rfl rfl rfl rfl (by simp) h2.2 h2.1
  have hks : ∀ e ∈ es, ∃ k', ok k' ∧ e.key = kv k' := fun e he => by obtain ⟨k', h0, h, _⟩ := hes e he; exact ⟨k', h0, h⟩
  refine V_wild (post := fun _ G' => ∃ es' clk', Memo kv fv ok es' ∧ G' = G1 ++ .m b es' clk' :: G2) m rfl rfl (fun a w hkn hw => ?_) (by rintro v G' ⟨es', clk', h1, rfl⟩; exact kk es' clk' h1)
  subst hG
  have hb : w.heap[b]? = some (.map es.toArray clk) := hw.has (.m b es clk) (by simp)
  rcases hK.find es k w hok hks with ⟨hf, hno⟩ | ⟨i, e, hf, hi, hk⟩
  · have hes' : Memo kv fv ok (es ++ [({ key := kv k, val := fv k, born := clk } : MapEntry)]) := by
      intro e' he'
      rcases List.mem_append.1 he' with h | h
      · exact hes e' h
      · simp at h; subst h; exact ⟨k, hok, rfl, rfl⟩
    refine .inr (.inl ⟨({ w with heap := w.heap.setIfInBounds b (.map (es ++ [({ key := kv k, val := fv k, born := clk } : MapEntry)]).toArray (clk + 1)) } : World), ?_, undef, _, rfl, hput w _ _ hw, _, _, hes', rfl⟩)
    simp only [execOp]; rw [hkn.eval hx, hkn.eval hy, hkn.eval hz]
    simp [Instr.mapUpdate, run_underlying hu, MapKept.run_getObj_map hb, hK.check _ _ _ hok, hf, MapKept.run_setObj_map _ hb]
  · let es' := es.modify i fun e => { e with key := kv k, val := fv k }
    have hes' : Memo kv fv ok es' := by
      intro e' he'
      obtain ⟨j, hj⟩ := List.mem_iff_getElem?.1 he'
      rw [List.getElem?_modify] at hj
      cases hej : es[j]? with
      | none => simp [hej] at hj
      | some u =>
        rw [hej] at hj
        have hj' := Option.some.inj hj
        rw [← hj']
        split
        · exact ⟨k, hok, rfl, rfl⟩
        · exact hes u (List.mem_of_getElem? hej)
    refine .inr (.inl ⟨({ w with heap := w.heap.setIfInBounds b (.map es'.toArray clk) } : World), ?_, undef, _, rfl, hput w es' clk hw, es', clk, hes', rfl⟩)
    simp only [execOp]; rw [hkn.eval hx, hkn.eval hy, hkn.eval hz]
    simp [Instr.mapUpdate, run_underlying hu, MapKept.run_getObj_map hb, hK.check _ _ _ hok, hf, hi, hk, hK.stays _ _ hok, MapKept.run_setObj_map _ hb, es']

inductive Sp : List Ent → List Ent → Ent → List Ent → Prop where
  | z {x : Ent} {r : List Ent} : Sp (x :: r) [] x r
  | s {x u : Ent} {r G1 G2 : List Ent} : Sp r G1 x G2 → Sp (u :: r) (u :: G1) x G2
theorem Sp.eq {G G1 G2 : List Ent} {x : Ent} (h : Sp G G1 x G2) : G = G1 ++ x :: G2 := by
  induction h with
  | z => rfl
  | s _ ih => rw [ih]; rfl

theorem KeyOk.one {kt : TypeId} {κ : Type} {kv : κ → Value} {ok : κ → Prop} {D : TypeDesc} (hu : P.underlying kt = some D) (hk : ∀ k, MapKept.IsKey D (kv k)) (hi : ∀ a b, kv a = kv b → a = b) (hb : ∀ k, Instr.sameBits 10000 (kv k) (kv k) = true) : KeyOk P kt kv ok where
  inj := hi
  check := fun e k w _ => MapKept.run_checkKey hu (hk k) e 9999
  stays := fun k w _ => by simp [Instr.keyThatStays, hb]
  find := fun es k w _ h => by
    rcases MapKept.findNow_spec (hk k) es 0 (fun x hx => by obtain ⟨k', _, e⟩ := h x hx; rw [e]; exact hk k') with ⟨h1, h2⟩ | ⟨j, e, h1, h2, h3⟩
    · exact .inl ⟨MapKept.run_findKey hu h1, h2⟩
    · exact .inr ⟨j, e, by rw [MapKept.run_findKey hu h1]; simp, h2, h3⟩

theorem KeyOk.deep {kt : TypeId} {κ : Type} {kv : κ → Value} {ok : κ → Prop} (L : WideMaps.KeyLaw P kt) (hi : ∀ a b, kv a = kv b → a = b) (hk : ∀ k, ok k → ∃ l, keyOf P kt (kv k) = some l) : KeyOk P kt kv ok where
  inj := hi
  check := fun e k w h => by obtain ⟨l, hl⟩ := hk k h; exact L.check w e hl
  stays := fun k w h => by obtain ⟨l, hl⟩ := hk k h; exact L.stays w hl
  find := fun es k w h hes => by
    obtain ⟨l, hl⟩ := hk k h
    rcases L.find w hl es (fun e he => by obtain ⟨k', h1, h2⟩ := hes e he; obtain ⟨l', hl'⟩ := hk k' h1; exact ⟨l', by rw [h2]; exact hl'⟩) with ⟨h1, h2⟩ | ⟨j, e, h1, h2, h3⟩
    · exact .inl ⟨h1, h2⟩
    · exact .inr ⟨j, e, h1, h2, h3⟩
theorem keyOf_two {k : TypeId} {f0 f1 : Field} {a b : Value} {la lb : List Lit} (hu : P.underlying k = some (.struct #[f0, f1])) (hkt : P.keyType k = true) (hs : ∃ m, P.types.size = m + 1) (hc : P.cellsOf k = 2) (hn0 : (f0.name != "_") = true) (hn1 : (f1.name != "_") = true)
    (ho0 : f0.offset = 0) (ho1 : f1.offset = 1) (c0 : P.cellsOf f0.type = 1) (c1 : P.cellsOf f1.type = 1) (ha : ∀ d, P.keyLits (d + 1) f0.type [a] = some la) (hb : ∀ d, P.keyLits (d + 1) f1.type [b] = some lb) : ∃ l, keyOf P k (.agg #[a, b]) = some l := by
  obtain ⟨m, hm⟩ := hs
  have h : P.keyLits (P.types.size + 1) k [a, b] = some (la ++ (lb ++ [])) := by
    rw [hm]
    have e : (#[f0, f1].all fun x => x.name != "_") = true := by simp at hn0 hn1 ⊢; exact ⟨hn0, hn1⟩
    unfold Program.keyLits
    rw [hu]
    dsimp only
    rw [if_pos ⟨by simp [hc], e⟩]
    simp [ho0, ho1, c0, c1, ha m, hb m]
  refine ⟨.string (keyBytes (la ++ (lb ++ []))), ?_⟩
  unfold keyOf
  rw [hu]
  have hf : (Value.agg #[a, b]).formed P k = true := by simp [Value.formed, hu, hc]
  dsimp only
  rw [hkt, hf]
  show (if (true && true) = true then (P.keyLits (P.types.size + 1) k [a, b]).map _ else none) = _
  rw [h]; rfl

end Go.Proofs.YtgeahmmepfmcoaaDoor.L
